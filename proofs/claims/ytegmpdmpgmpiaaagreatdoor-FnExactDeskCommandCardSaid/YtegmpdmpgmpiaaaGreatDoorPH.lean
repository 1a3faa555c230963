/- Lemmas. No condition. -/
import Derived.Test.YtegmpdmpgmpiaaaGreatDoorPG
import Derived.Test.YtegmpdmpgmpiaaaGreatDoorPQ
open Bool renaming false->ax,true->b5,not_true->b6,or_true->b7,and_self->bX,or_self->c7,not_eq_true'->cb,not_eq_false->cc,or_eq_true->cw,false_ne_true->cI,not_false->dT
open Decidable renaming decide->bo
open Go.Lib renaming decDigits->bb,join->bs,itoa->bN,cut->dc
open Go.Proofs.YtegmpdmpgmpiaaaGreatDoor renaming obS->b9,bfT->cm,tnC->e6
open Inhabited renaming default->a'
open Int renaming ofNat_lt->bz
open List renaming getD_cons_zero->au,getD_cons_succ->b4,length_cons->bh,take_succ_eq_append_getElem->bI,length_append->bR,mem_cons_of_mem->bS,nil_append->b',map_cons->c6,mem_cons->c8,take_length->cd,not_mem_nil->cf,cons_ne_nil->cl,mem_append->cn,map_append->ct,mem_map->cA,singleton_append->cB,append_assoc->cS,length_drop->c',cons_append->db,length_nil->df,length_map->ds,tail_cons->dw,replicate->dx,drop_one->dU
open Option renaming some->b0,isSome_some->b8,getD_some->be
set_option linter.defProp false
set_option linter.unusedSimpArgs false
set_option linter.unusedVariables false
set_option maxRecDepth 100000
open Go.IntKind (i64 u64)
namespace Go.Proofs.YtegmpdmpgmpiaaaGreatDoor
open Go Go.RowKit
def Ol(c:UInt8):L8->L8×Bool
 |[]=>([],ax)
 |x::r=>if x=c then(r,b5)else(x::r,ax)
variable{s:L8}
def RU(c:UInt8)(U:s.length<=9223372036854775807):Cg s [c]=b0 (Ol c s):=by
 unfold Cg CF DC;cases s with
 |nil=>simp[Ol,AB]
 | cons x r=>
  have R:bo ((([c]:L8).length:Int)<=((x::r).length:Int))=true:=decide_eq_true t';have J:cut (x::r) 0 (([c]:L8).length:Int)=[x]:=by simp[cut]
  have I:cut (x::r) (([c]:L8).length:Int) ((x::r).length:Int)=r:=by
   unfold cut;simp only[e6,cd];rfl
  rw[R,J,Gb n' p' t'];simp only[b6,Bool.false_or,AB,b9,Bool.true_and]
  by_cases j:x=c
  .have C:(([x]:L8)==[c])=b5:=by rw[beq_iff_eq,j]
   rw[C];simp only[b6,cm,if_false];rw[Gb p' t' p',AB,I];simp[Ol,j]
  .have C:(([x]:L8)==[c])=ax:=by rw[beq_eq_false_iff_ne];intro e;exact j (by simpa using e)
   rw[C];simp[Ol,j]
def yN:∀k:Fin 10,i64.wrap (IntKind.u8.wrap (((dg k.val).toNat:Int)-48))=(k.val:Int):=z'
theorem AAe(s:L8)(neg:Bool){w q:Nat}(C:w<=20)(I:q<=999):AE (CJ s neg (d3 q) [100,10,1] (([100,10,1]:List Int).length:Int)) (((w*1000:Nat):Int),0)=b0 ((w*1000+q:Nat):Int):=by
 have v0:=yN ⟨q/100,n'⟩;have v1:=yN ⟨q/10%10,n'⟩;have v2:=yN ⟨q%10,n'⟩;dsimp only at v0 v1 v2
 have j:CJ s neg (d3 q) [100,10,1] (([100,10,1]:List Int).length:Int) (((w*1000:Nat):Int),0)=b0 (.inl (((w*1000+100*(q/100):Nat):Int),1)):=by
  have g:(d3 q).getD (0:Int).toNat 0=dg (q/100):=rfl;simp only[CJ,g,v0];rw[if_pos x',show AS 0 ([100,10,1]:List Int).length=b5 from rfl,AB,show AS 0 (d3 q).length=b5 from rfl,AB];rw[show(([100,10,1]:List Int).getD (0:Int).toNat a')=100 from rfl,Z1 (n:=100*((q/100:Nat):Int)) n',Z1 n',show i64.wrap ((0:Int)+1)=1 from rfl];simp
 have s1:CJ s neg (d3 q) [100,10,1] (([100,10,1]:List Int).length:Int) (((w*1000+100*(q/100):Nat):Int),1)=b0 (.inl (((w*1000+100*(q/100)+10*(q/10%10):Nat):Int),2)):=by
  have g:(d3 q).getD (1:Int).toNat 0=dg (q/10%10):=rfl;simp only[CJ,g,v1];rw[if_pos x',show AS 1 ([100,10,1]:List Int).length=b5 from rfl,AB,show AS 1 (d3 q).length=b5 from rfl,AB];rw[show(([100,10,1]:List Int).getD (1:Int).toNat a')=10 from rfl,Z1 (n:=10*((q/10%10:Nat):Int)) n',Z1 n',show i64.wrap ((1:Int)+1)=2 from rfl];simp
 have s2:CJ s neg (d3 q) [100,10,1] (([100,10,1]:List Int).length:Int) (((w*1000+100*(q/100)+10*(q/10%10):Nat):Int),2)=b0 (.inl (((w*1000+q:Nat):Int),3)):=by
  have g:(d3 q).getD (2:Int).toNat 0=dg (q%10):=rfl;simp only[CJ,g,v2];rw[if_pos x',show AS 2 ([100,10,1]:List Int).length=b5 from rfl,AB,show AS 2 (d3 q).length=b5 from rfl,AB];rw[show(([100,10,1]:List Int).getD (2:Int).toNat a')=1 from rfl,Z1 (n:=1*((q%10:Nat):Int)) n',Z1 n',show i64.wrap ((2:Int)+1)=3 from rfl,show((w*1000+100*(q/100)+10*(q/10%10):Nat):Int)+1*((q%10:Nat):Int)=((w*1000+q:Nat):Int) by omega]
 rw[Aq j,Aq s1,Aq s2];refine Ai ?_;simp only[CJ];rw[if_neg x']
variable{m:Int}
theorem Ur(h0:-2000<=m)(h1:m<=20000):CN (QB m)=b0 (m,b5):=by
 have hl:=QA h0 h1;have aj:=Eo (u:=m.natAbs/1000) n';obtain⟨c0,r0,R,J⟩:=Sc (m.natAbs/1000);have hM:=RS h0 h1
 have I:Ol 45 (QB m)=(bb (m.natAbs/1000)++46::d3 (m.natAbs%1000),bo (m<0)):=by
  unfold QB
  by_cases j:m<0
  .rw[if_pos j];simp[Ol,j]
  .have hx:=kF (c:=45) J (.inl x');rw[if_neg j,R];simp[Ol,j,hx]
 have C:(46:UInt8) ∉ bb (m.natAbs/1000):=fun R=>kF (c:=46) (Pi _ _ R) (.inl x') rfl
 unfold CN fY Ma;rw[RU 45 n',I];simp only[b9];rw[if_pos (by simp[d3];omega),RI C];simp only[b9];rw[if_pos n',←Kl,Sz n' n'];simp only[b9,FV,b8,be,b7,AB];have e1:(bo ((0:Int)<=((m.natAbs/1000:Nat):Int))&&bo (((m.natAbs/1000:Nat):Int)<=20))=b5:=t'
 have e2:(((d3 (m.natAbs%1000)).length:Int)==3)=true:=rfl;rw[e1,e2];simp only[b6,c7,cm,if_false];have e3:i64.wrap (((m.natAbs/1000:Nat):Int)*1000)=((m.natAbs/1000*1000:Nat):Int):=by rw[Z1 n'];omega
 rw[e3,AAe (QB m) _ n' n'];have e4:m.natAbs/1000*1000+m.natAbs%1000=m.natAbs:=n'
 rw[e4];simp only[b9]
 by_cases j:m<0
 .have U:i64.wrap (0-(m.natAbs:Int))=m:=by rw[Z1 n'];omega
  simp only[j,decide_true,if_true,U,hM,b9,beq_self_eq_true,b6,cm,if_false]
 .have U:(m.natAbs:Int)=m:=n'
  simp only[j,decide_false,cm,if_false,U,hM,b9,beq_self_eq_true,b6]
def Xk:∀k:Fin 10,Xl (dg k.val)=b5:=z'
theorem ls0(s:L8):Lf s=Cy s:=id rfl
def xT(s:L8)(j:List L8)(neg:Bool)(U:1<j.length){w q:Nat}(hg:j.getD 1 a'=d3 q)(hw:w<=20)(hq:q<=999):AE (Cy s j neg) ((w:Int),0)=b0 (.inl ((w*1000+q:Nat):Int)):=by
 have v0:=yN ⟨q/100,n'⟩;have v1:=yN ⟨q/10%10,n'⟩;have v2:=yN ⟨q%10,n'⟩;have t0:=Xk ⟨q/100,n'⟩;have t1:=Xk ⟨q/10%10,n'⟩;have t2:=Xk ⟨q%10,n'⟩;dsimp only at v0 v1 v2 t0 t1 t2;have C:AS 1 j.length=true:=Z2 n'
 have one:∀(n:Nat) (i i':Int) (d:UInt8) (k:Nat),i+1=i'->n<=100000->k<10->(bo (i<3))=b5->AS i (d3 q).length=b5->(d3 q).getD i.toNat 0=d->Xl d=b5->i64.wrap (IntKind.u8.wrap ((d.toNat:Int)-48))=(k:Int)->0<=i->Cy s j neg ((n:Int),i)=b0 (.inl (((10*n+k:Nat):Int),i')):=fun n i i' d k I hn hk R hi hd J hv h0=>by
  have ad:=of_decide_eq_true R;simp only[Cy,R,if_true,C,AB,hg,hi,hd,PK,J,b9,b6,cm,if_false,hv];rw[Z1 (n:=10*(n:Int)) n',Z1 (n:=10*(n:Int)+(k:Int)) n',Z1 n',I];simp
 rw[Aq (one w 0 1 (dg (q/100)) (q/100) rfl n' n' rfl rfl rfl t0 v0 n'),Aq (one (10*w+q/100) 1 2 (dg (q/10%10)) (q/10%10) rfl n' n' rfl rfl rfl t1 v1 n'),Aq (one (10*(10*w+q/100)+q/10%10) 2 3 (dg (q%10)) (q%10) rfl n' n' rfl rfl rfl t2 v2 n')];refine Ai ?_;have:10*(10*(10*w+q/100)+q/10%10)+q%10=w*1000+q:=n'
 rw[this];simp only[Cy];rw[if_neg x']
theorem Zo(h0:-2000<=m)(h1:m<=20000):Ci (QB m)=b0 (m,b5):=by
 have hl:=QA h0 h1;have a8:=Eo (u:=m.natAbs/1000) n';obtain⟨c0,r0,I,ba⟩:=Sc (m.natAbs/1000);have hT:=Qw h0 h1;have hM:Bv m=b0 b5:=by unfold Bv;rw[Dr];simp[h0,h1]
 have ab:(46:UInt8) ∉ bb (m.natAbs/1000):=fun I=>kF (c:=46) (Pi _ _ I) (.inl x') rfl
 have J:(46:UInt8) ∉ d3 (m.natAbs%1000):=fun I=>by
  have k0:=Xk ⟨m.natAbs%1000/100,n'⟩;have k1:=Xk ⟨m.natAbs%1000/10%10,n'⟩;have k2:=Xk ⟨m.natAbs%1000%10,n'⟩;simp only[d3,c8,cf,or_false]at I;dsimp only at k0 k1 k2;rcases I with e|e|e
  .rw[←e]at k0;exact absurd k0 x'
  .rw[←e]at k1;exact absurd k1 x'
  .rw[←e]at k2;exact absurd k2 x'
 have U:ER (QB m) 46=b0 [(if m<0 then([45]:L8)else [])++bb (m.natAbs/1000),d3 (m.natAbs%1000)]:=by
  rw[NY 46 n'];unfold QB BU
  rw[cS _ [46],cB,Kz (by
   intro ad;rcases cn.1 ad with q|q
   .split at q<;>simp at q
   .exact ab q),PD J]
  simp
 have C:Bo (bb (m.natAbs/1000))=b0 (((m.natAbs/1000:Nat):Int),b5):=by
  rw[LJ n',←Kl,Sz n' n']
 have e1:(bo ((0:Int)<=((m.natAbs/1000:Nat):Int))&&bo (((m.natAbs/1000:Nat):Int)<=20))=b5:=t'
 have e4:m.natAbs/1000*1000+m.natAbs%1000=m.natAbs:=n'
 have j:=fun(ws:List L8) (neg:Bool) (h:1<ws.length) (hg:ws.getD 1 a'=d3 (m.natAbs%1000))=>xT (QB m) ws neg h (w:=m.natAbs/1000) hg n' n'
 rw[e4]at j;unfold Ci;rw[U];simp only[b9,ls0];rw[show AS 1 ([(if m<0 then([45]:L8)else [])++bb (m.natAbs/1000),d3 (m.natAbs%1000)]:List L8).length=b5 from rfl,b7,AB,if_neg (by simp[d3]),show AS 0 ([(if m<0 then([45]:L8)else [])++bb (m.natAbs/1000),d3 (m.natAbs%1000)]:List L8).length=b5 from rfl,AB]
 by_cases hn:m<0
 .simp only[if_pos hn,au];have hz:([45]:L8)++bb (m.natAbs/1000)=45::bb (m.natAbs/1000):=rfl;rw[hz];have hlen:bo ((0:Int)<((45::bb (m.natAbs/1000):L8).length:Int))=true:=decide_eq_true (by simp only[bh];omega);have R:cut (45::bb (m.natAbs/1000):L8) 1 ((45::bb (m.natAbs/1000):L8).length:Int)=bb (m.natAbs/1000):=by unfold cut;simp
  have e5:i64.wrap (0-(m.natAbs:Int))=m:=by rw[Z1 n'];omega
  rw[Dz (n:=(45::bb (m.natAbs/1000):L8).length) n' (by simp only[bh];omega),b7,AB,if_pos (by rw[hlen];rfl),Gb n' (by simp only[bh];omega) n',AB,R,C];simp only[b9,Dr,b8,be,b7,AB,e1,b6,c7,cm,if_false];rw[j _ _ p' rfl];simp only[b9,e5,hM,hT,b8,be,b7,AB,beq_self_eq_true,b6,c7,cm,if_false]
 .simp only[if_neg hn,au,b'];have e5:(m.natAbs:Int)=m:=n'
  have hx:((((bb (m.natAbs/1000)).getD 0 0).toNat:Int)==45)=ax:=by
   rw[I,au,beq_eq_false_iff_ne];omega
  have aa:(!(bo ((0:Int)<((bb (m.natAbs/1000)).length:Int)))||AS 0 (bb (m.natAbs/1000)).length)=b5:=by
   rw[Dz n' (by rw[I];simp),b7]
  rw[aa,AB,hx,Bool.and_false,if_neg x',C];simp only[b9,Dr,b8,be,b7,AB,e1,b6,c7,cm,if_false];rw[j _ _ p' rfl];simp only[b9,e5,hM,hT,b8,be,b7,AB,beq_self_eq_true,b6,c7,cm,if_false]
def wA(s:L8)(y:Int×Bool):Prop:=y=(0,ax)\/(y.2=b5/\-2000<=y.1/\y.1<=20000/\QB y.1=s)
def pm(m:Int)(s:L8)(hs:s≠[]):∃t,Df m=b0 t/\(((t==s))=b5->-2000<=m/\m<=20000/\QB m=s):=by
 by_cases h:-2000<=m/\m<=20000
 .exact⟨_,RS h.1 h.2,fun e=>⟨h.1,h.2,by simpa using e⟩⟩
 .refine⟨[],?_,fun e=>absurd (by simpa using e:[]=s).symm hs⟩;unfold Df Ba;rw[FV,b9];have e:(bo (-2000<=m)&&bo (m<=20000))=ax:=t'
  rw[e];rfl
def tl(m:Int)(s:L8):∃r,((Bv m).bind fun y=>ck (!(!(!y))||(Ch m).isSome)<|if((!y)||(!(((Ch m).getD a')==s)))then b0 ((0:Int),ax)else b0 (m,b5))=b0 r/\wA s r:=by
 unfold Bv;rw[Dr];simp only[b9]
 by_cases h:-2000<=m/\m<=20000
 .rw[Qw h.1 h.2,b8,b7,AB,be];split
  .exact⟨_,rfl,.inl rfl⟩
  .rename_i j;simp only[cw,not_or,cb,cc,beq_iff_eq]at j;exact⟨_,rfl,.inr ⟨rfl,h.1,h.2,j.2⟩⟩
 .have e:(bo (-2000<=m)&&bo (m<=20000))=ax:=t'
  rw[e];exact⟨_,rfl,.inl rfl⟩
def NC(c:UInt8):∀(s acc:L8),∀p∈DA c acc s,p.length<=acc.length+s.length
 | [],acc,p,h=>by
  have:p=acc:=by simpa[DA]using h
  rw[this];simp
 | x::r,acc,p,h=>by
  rw[DA]at h;split at h
  .rcases c8.1 h with rfl|h
   .simp
   .have:=NC c r [] p h;simp at this ⊢;omega
  .have:=NC c r (acc++[x]) p h;simp at this ⊢;omega
def fR(hl:s.length<=1048576):∃y,Ci s=b0 y/\wA s y:=by
 unfold Ci;rw[NY 46 hl,b9];have I:=NC 46 s [];have I:∀p∈BU 46 s,p.length<=1048576:=fun p h=>by have:=I p h;simp at this;omega
 generalize BU 46 s=ws at I
 by_cases h2:ws.length=2
 .have k0:AS 0 ws.length=true:=Z2 n';have k1:AS 1 ws.length=true:=Z2 n';have ab:=I _ (Hu (show 0<ws.length by omega) a');rw[k1,b7,AB];split
  .exact⟨_,rfl,.inl rfl⟩
  .rename_i hc
   have h3:(ws.getD 1 a').length=3:=by
    simp only[cw,not_or,cb,cc,beq_iff_eq]at hc;omega
   have loop:∀(neg:Bool) (J:Int),∃r,AE (Cy s ws neg) (J,0)=b0 r/\(∀z,r = .inr z->z=(0,ax)):=fun neg J=>DN (step:=Cy s ws neg) (fun s=>∃i:Nat,s.2=(i:Int)/\i<=3) (fun r=>∀z,r = .inr z->z=(0,ax)) (fun s=>3-s.2.toNat) (by
    rintro⟨n,z⟩ ⟨i,hi,hle⟩;have hi:z=(i:Int):=hi;subst hi
    by_cases c:i<3
    .have U:(i:Int)<3:=n'
     simp only[Cy,U,decide_true,if_true,k1,Aa,h3,c,AB,PK,b9,(Z4 i)];split
     .exact .inr ⟨_,rfl,fun z j=>by cases j;rfl⟩
     .exact .inl ⟨_,rfl,⟨i+1,rfl,c⟩,by simp only[e6];omega⟩
    .right;have U:¬ (i:Int)<3:=n'
     simp only[Cy,U,decide_false,cm,if_false];exact⟨_,rfl,fun z j=>by cases j⟩) (s:=(J,0)) ⟨0,rfl,n'⟩
   rw[k0,AB];simp only[ls0,Dr,b8,be,b7,AB];obtain⟨N,hN⟩:∃N,N=(bo ((0:Int)<((ws.getD 0 a').length:Int))&&((((ws.getD 0 a').getD 0 0).toNat:Int)==45)):=⟨_,rfl⟩;rw[←hN]
   have hk:(!(bo ((0:Int)<((ws.getD 0 a').length:Int)))||AS 0 (ws.getD 0 a').length)=b5:=by
    by_cases c:0<(ws.getD 0 a').length
    .rw[Z2 n',b7]
    .rw[decide_eq_false n'];rfl
   rw[hk,AB];split
   .rename_i C
    have h0:(0:Int)<((ws.getD 0 a').length:Int):=by
     rw[hN]at C;exact of_decide_eq_true (Bool.and_eq_true_iff.1 C).1
    rw[Z3 n',AB,LJ (by simp only[cut,c',List.length_take];omega)];simp only[b9];split
    .exact⟨_,rfl,.inl rfl⟩
    .obtain⟨r,R,j⟩:=loop N (CQ (cut (ws.getD 0 a') 1 ((ws.getD 0 a').length:Int))).1;rw[R,b9];cases r with
     |inl a=>exact tl _ s
     |inr b=>rw[j b rfl];exact⟨_,rfl,.inl rfl⟩
   .rw[LJ n'];simp only[b9];split
    .exact⟨_,rfl,.inl rfl⟩
    .obtain⟨r,R,j⟩:=loop N (CQ (ws.getD 0 a')).1;rw[R,b9];cases r with
     |inl a=>exact tl _ s
     |inr b=>rw[j b rfl];exact⟨_,rfl,.inl rfl⟩
 .have e2:((ws.length:Int)==2)=ax:=by rw[beq_eq_false_iff_ne];omega
  rw[e2];exact⟨_,rfl,.inl rfl⟩
theorem fX(hl:s.length<=1048576):∃y,CN s=b0 y/\wA s y:=by
 unfold CN
 have C:(Ol 45 s).1.length<=s.length:=by
  cases s with
  |nil=>simp[Ol]
  |cons x r=>by_cases hx:x=45<;>simp[Ol,hx]
 rw[RU 45 n',b9];obtain⟨t,b,I⟩:∃t b,Ol 45 s=(t,b):=⟨_,_,rfl⟩;rw[I]at C ⊢;have R:t.length<=s.length:=C
 have l2:(dc t [46]).1.length<=1048576:=by
  by_cases h:(46:UInt8)∈t
  .rcases KM 46 t with⟨_,q⟩|⟨x,y,rfl,q,_⟩
   .exact absurd h q
   .rw[RI q];simp at R;simp only;omega
  .rw[Ui h];simp only;omega
 simp only;rw[oX n',b9,QJ l2,b9];simp only[FV,b8,b7,AB,be]
 have j:(dc t [46]).2.1.length=3->s≠[]:=fun h e=>by
  subst e;have:t=[]:=List.length_eq_zero_iff.1 (by simpa using R);rw[this,Ui p']at h;simp at h
 generalize hr:(dc t [46]).2.1=rest at j;split
 .exact⟨_,rfl,.inl rfl⟩
 .rename_i h
  have h3:rest.length=3:=by
   simp only[cw,not_or,cb,cc,beq_iff_eq]at h;omega
  have U:([100,10,1]:List Int).length=3:=rfl;generalize([100,10,1]:List Int)=L at U
  obtain⟨y,hy,_⟩:=DN (step:=CJ s b rest L (L.length:Int)) (fun s=>∃i:Nat,s.2=(i:Int)/\i<=3) (fun _=>True) (fun s=>3-s.2.toNat) (by
   rintro⟨n,z⟩ ⟨i,hi,hle⟩;have hi:z=(i:Int):=hi;subst hi
   by_cases c:i<3
   .left;have J:(i:Int)<((3:Nat):Int):=n'
    simp only[CJ,J,decide_true,if_true,Aa,h3,U,c,AB,(Z4 i)];refine⟨_,rfl,⟨i+1,rfl,c⟩,?_⟩;simp only[e6];omega
   .right;have J:¬ (i:Int)<(L.length:Int):=n'
    simp only[CJ,J,decide_false,cm,if_false];exact⟨_,rfl,trivial⟩) (s:=(i64.wrap ((CQ (dc t [46]).1).1*1000),0)) ⟨0,rfl,n'⟩
  rw[hy,b9]
  have fin:∀m,∃r,((Df m).bind fun v=>if(!(v==s))then b0 ((0:Int),ax)else b0 (m,b5))=b0 r/\wA s r:=fun m=>by
   obtain⟨v,hv,hm⟩:=pm m s (j h3);rw[hv,b9];split
   .exact⟨_,rfl,.inl rfl⟩
   .rename_i hc;obtain⟨a,b,c⟩:=hm (by simpa using hc);exact⟨_,rfl,.inr ⟨rfl,a,b,c⟩⟩
  split<;>exact fin _
def lN(C:s.length<=1048576):∃y,CN s=b0 y/\Ci s=b0 y:=by
 obtain⟨y,j,J⟩:=fX C;obtain⟨z,I,h2⟩:=fR C;rcases J with rfl|⟨_,a,b,c⟩
 .rcases h2 with rfl|⟨_,a,b,c⟩
  .exact⟨_,j,I⟩
  .rw[←c,Ur a b]at j;exact absurd (congrArg (fun o=>(o.map Prod.snd)) j) p'
 .rw[←c,Zo a b]at I;rw[←c,Ur a b]at j;exact⟨_,by rw[←c];exact Ur a b,by rw[←c];exact Zo a b⟩
def Wc(log:L8):Prop:=∃es,log=Ft 0 es/\Qf 0 es/\(∀x,x∈es->KT x=b5)/\log.length<=4000
def Wc.code{log:L8}(h:Wc log):Gu log=0:=by
 obtain⟨es,rfl,j,h2,I⟩:=h;obtain⟨C,p2,p3⟩:=ib j h2;unfold Gu;rw[if_neg n',if_pos p2]
def Wc.len{log:L8}(h:Wc log):log.length<=4000:=by obtain⟨_,_,_,_,h⟩:=h;exact h
def Qe:∀(es:List AU) (d:Int) (e:AU),Qf d es->(if es.length=0 then d else EO es)<=e.Day->Qf d (es++[e])
 |[],d,e,_,h=>⟨by simpa using h,trivial⟩
 | x::r,d,e,hs,h=>by
  refine⟨hs.1,Qe r x.Day e hs.2 ?_⟩;have h:EO (x::r)<=e.Day:=by simpa using h
  cases r with
  |nil=>simpa[EO]using h
  | cons y q=>
   have j:EO (x::y::q)=EO (y::q):=by
    unfold EO;simp[gdE]
   rw[j]at h;simpa using h
def ft{log:L8}(h:Wc log)(e:AU):∃out c,Du log e=b0 (out,c)/\(c=0->Wc out/\KZ e.What=b5):=by
 have C:=h.code;obtain⟨es,rfl,hs,ho,hlen⟩:=h;obtain⟨p1,p2,p3⟩:=ib hs ho;have hi:=QC (Ft 0 es);obtain⟨ae,last,e2,h1,h2⟩:=Rm (log:=Ft 0 es) n';obtain⟨rfl,rfl⟩:=h1 C;obtain⟨b1,b2,b3⟩:=WJ C;unfold Du;rw[e2];simp only[b9,C,beq_self_eq_true,b6,cm,if_false,Pk];cases j:KT e
 .exact⟨_,_,rfl,fun c=>absurd c x'⟩
 .have I:=TB j;obtain⟨s1,s2,U,R⟩:=Lu j hi.lo hi.hi;have lw:=Ms j;have ls:=Fv (n:=Cn (EI (Ft 0 es)).2.2 e) ⟨n',n'⟩
  have k:(!(bo (0<((EI (Ft 0 es)).1.length:Int)))||AS (i64.wrap (((EI (Ft 0 es)).1.length:Int)-1)) (EI (Ft 0 es)).1.length)=b5:=by
   by_cases c:(EI (Ft 0 es)).1.length=0
   .simp[c]
   .rw[Z1 n',Z2 n',b7]
  simp only[b6,cm,if_false,k,AB,AAp (es:=(EI (Ft 0 es)).1) (d:=e.Day) I.1 n'];cases hd:bo (e.Day<EO (EI (Ft 0 es)).1)
  .simp only[cm,if_false,s2,b9,ic j U R];rw[As t',AB];split
   .exact⟨_,_,rfl,fun c=>absurd c x'⟩
   .rename_i J;refine⟨_,_,rfl,fun _=>⟨⟨es++[e],?_,?_,fun x hx=>?_,?_⟩,XP j⟩⟩
    .rw[UQ,p3]
    .refine Qe es 0 e hs ?_;have hd:=of_decide_eq_false hd;rw[p1]at hd;split
     .exact I.1
     .omega
    .rcases cn.1 hx with c|c
     .exact ho x c
     .obtain rfl:x=e:=by simpa using c
      exact j
    .have J:¬ (4000:Int)<((Ft 0 es++(((IE e++[32])++bN (Cn (EI (Ft 0 es)).2.2 e))++[10])).length:Int):=by simpa using J
     omega
  .exact⟨_,_,rfl,fun c=>absurd c x'⟩
def vv(out:List L8):Prop:=out.length<=5000/\∀s∈out,s.length<=5000
def NF(h:s.length<=5000):vv [s]:=⟨p',by simpa using h⟩
def oL(p:L8){m:Nat}:∀{l:List L8},(∀s∈l,s.length<=m)->(bs l p).length<=l.length*(m+p.length)
 |[],_=>by simp[bs]
 | [x],h=>by
  have:=h x p';have e:bs [x] p=x:=by simp[bs]
  rw[e];simp;omega
 | x::y::r,h=>by
  have j:=h x p';have h2:=oL p (m:=m) (l:=y::r) (fun s hs=>h s (bS _ hs));have e:bs (x::y::r) p=x++p++bs (y::r) p:=by simp[bs]
  rw[e,bR,bR,bh,Nat.add_mul,Nat.one_mul];omega
def Tp(z:Int):∃s,Dt z=b0 s/\Fj z=b0 s/\s.length<=20:=by
 unfold Dt Fj;generalize C:([[111,107],[105,110,118,97,108,105,100],[114,97,110,103,101],[110,111,116,45,102,111,117,110,100],[101,120,105,115,116,115],[102,117,108,108],[115,116,97,116,101],[115,121,110,116,97,120],[102,111,114,109,97,116],[99,108,97,115,104],[99,108,111,117,100,121]]:List L8)=L;have hb:∀s∈L,s.length<=20:=by rw[←C];decide
 have j:L.length=11:=by rw[←C];rfl
 have hw:i64.wrap ((L.length:Int)-1)=10:=by rw[j];exact Z1 n'
 rw[Dr,b9,hw,j]
 by_cases h:0<=z/\z<=10
 .rw[if_neg t',if_neg t',Z2 n',AB];exact⟨_,rfl,rfl,hb _ (Hu n' a')⟩
 .rw[if_pos t',if_pos t'];exact⟨_,rfl,rfl,p'⟩
def QV{n:Int}(h:QY n):∃s,Av n=b0 s/\BE n=b0 s/\s.length<=21:=⟨_,Kv h,KL h,Fv h⟩
def Ss{d:Ad}(R:d.Stars.length<=1000000)(h2:d.Estimates.length<=1000000):∃s,DD d=b0 s/\Ep d=b0 s/\s.length<=100:=by
 unfold DD Fx ET Ep;obtain⟨a,C,f1,J⟩:=QV (n:=(d.Stars.length:Int)) ⟨n',n'⟩;obtain⟨b,j,f2,I⟩:=QV (n:=(d.Estimates.length:Int)) ⟨n',n'⟩;simp only[b9,C,f1,j,f2];rw[As t',AB,As t',AB,As t',AB];exact⟨_,rfl,rfl,t'⟩
theorem zM:Jg=Hp:=id rfl
def ig{l:List AA}(I:l.length<=1000000)(s:L8)(t:AA):∀k:Nat,k<=l.length->AE (Hk l s t) ((k:Int)-1)=b0 (match(l.take k).reverse.find? (fun e=>e.Star==s)with|some e=>.inr (e,0)|none=>.inl ())
 | 0,_=>by
  rw[Ai (r:=.inl ()) (by simp[Hk])];rfl
 | k+1,h=>by
  have j:k<l.length:=n'
  have J:(((k+1:Nat):Int)-1)=(k:Int):=n'
  rw[J,bI j,List.reverse_append,List.reverse_singleton,cB,List.find?_cons];have C:(0:Int)<=(k:Int):=n'
  cases hs:(l[k].Star==s)with
  | true=>
   rw[Ai (r:=.inr (l[k],0)) (by simp only[Hk,C,decide_true,if_true,Aa,j,AB,e6,Cl j,hs])]
  | false=>
   rw[Aq (s':=(k:Int)-1) (by
    simp only[Hk,C,decide_true,if_true,Aa,j,AB,e6,Cl j,hs,cm,if_false];rw[Z1 n']),ig I s t k n']
variable{e:AA}
def AAM(h:Nj e=b5):QY e.Time/\e.Star.length<=100/\e.Observer.length<=100:=by
 unfold Nj at h;simp only[baT,dtE]at h;obtain⟨⟨⟨⟨I,h2⟩,C⟩,j⟩,_⟩:=h;have a:=(XT C).2;have b:=(XT j).2;exact⟨⟨n',n'⟩,n',n'⟩
def pq{l:List AA}(J:l.length<=1000000)(w:L8):∃e z,Gt l w=b0 (e,z)/\Gp l w=b0 (e,z)/\(z=0->Nj e=b5)/\QY e.Time/\e.Star.length<=100/\e.Observer.length<=100:=by
 unfold Gt Gp;rw[GH n',b9,SH n',b9,JY,b9,JP,b9];have j:QY (0:Int)/\([]:L8).length<=100/\([]:L8).length<=100:=⟨by unfold QY;decide,p',p'⟩;split
 .exact⟨_,_,rfl,rfl,fun h=>absurd h x',j⟩
 .rename_i C
  have U:FP l=b5:=by
   cases R:FP l with
   |true=>rfl
   |false=>rw[R]at C;simp at C
  split
  .exact⟨_,_,rfl,rfl,fun h=>absurd h x',j⟩
  .have hw:i64.wrap ((l.length:Int)-1)=(l.length:Int)-1:=Z1 n';rw[hw,ig J w _ l.length (Nat.le_refl _),cd,b9];cases hf:l.reverse.find? (fun e=>e.Star==w)with
   |none=>exact⟨_,_,rfl,rfl,fun h=>absurd h x',j⟩
   | some e=>
    have hm:e∈l:=by
     have:=List.mem_of_find?_eq_some hf;simpa using this
    have I:=TH U hm;exact⟨_,_,rfl,rfl,fun _=>I,AAM I⟩
theorem AAl(U:QY e.Time)(h2:e.Star.length<=100)(h3:e.Observer.length<=100):∃s,Ee e=b0 s/\s.length<=1000/\(Nj e=b5->Fg [e]=b0 (s++[10])):=by
 obtain⟨a,e1,l1,m1⟩:∃a,Df e.Mag=b0 a/\a.length<=30/\(Nj e=b5->Ch e.Mag=b0 a):=by
  by_cases h:-2000<=e.Mag/\e.Mag<=20000
  .exact⟨_,RS h.1 h.2,(QA h.1 h.2).2,fun _=>Qw h.1 h.2⟩
  .refine⟨[],?_,p',fun ho=>absurd (aI ho) n'⟩;unfold Df Ba;rw[FV,b9];have e:(bo (-2000<=e.Mag)&&bo (e.Mag<=20000))=ax:=t'
   rw[e];rfl
 obtain⟨b,J,f2,l2⟩:=QV U
 have key:∀w:L8,w.length<=100->YT [b,e.Star,e.Observer,w] [32]=b0 (b++[32]++e.Star++[32]++e.Observer++[32]++w):=fun w hw=>by
  unfold YT kN;have e0:bs [b,e.Star,e.Observer,w] [32]=b++[32]++e.Star++[32]++e.Observer++[32]++w:=by simp[bs]
  rw[e0,if_pos t']
 have C:Nj e=b5->∀(w:L8),w=(if e.Fainter=b5 then [60]++a else a)->Fg [e]=b0 (b++[32]++e.Star++[32]++e.Observer++[32]++w++[10]):=fun ho w hw=>by
  unfold Fg;have m1:=m1 ho
  rw[Aq (s':=(b++[32]++e.Star++[32]++e.Observer++[32]++w++[10],1)) (by
   have R:([e]:List AA).getD (0:Int).toNat a'=e:=rfl;simp only[Jy,R,f2,m1,b9];rw[if_pos p',show AS 0 ([e]:List AA).length=b5 from rfl,AB,As t',AB,As t',AB,As t',AB,As t',AB,As t',AB,Bl t',AB];have I:i64.wrap (0+1)=1:=rfl;rw[I]
   by_cases j:e.Fainter=b5
   .rw[if_pos j]at hw ⊢;rw[Bl t',AB,As t',AB,Bl t',AB,hw];simp
   .rw[if_neg j]at hw ⊢;rw[As t',AB,Bl t',AB,hw];simp),Ai (r:=b++[32]++e.Star++[32]++e.Observer++[32]++w++[10]) (by simp[Jy])]
  rfl
 unfold Ee;rw[e1,b9];split
 .rename_i j;rw[As t',AB,J,b9,key _ t'];exact⟨_,rfl,t',fun ho=>C ho _ (by rw[if_pos j])⟩
 .rename_i j;rw[J,b9,key _ n'];exact⟨_,rfl,t',fun ho=>C ho _ (by rw[if_neg j])⟩
variable{l:List AA}
def AAJ(hg:FP l=b5)(hl:l.length<=100)(I y:Int):Cw l I y=CU l I y:=by
 unfold Cw CU BV;rw[GH n',b9,SH n',b9];have C:∀i,i<l.length->Nj (l.getD i a')=true:=fun i hi=>TH hg (Hu hi a')
 have hw:=Rn (step:=Ck l I y) (step':=Ac (l.length:Int) l I y (l.length:Int)) (fun s=>∃i:Nat,s.2=(i:Int)/\i<=l.length) (by
  rintro⟨out,z⟩ ⟨i,hi,hle⟩;have hi:z=(i:Int):=hi;subst hi
  by_cases c:i<l.length
  .simp only[Ck,Ac,bz,c,decide_true,if_true,(Z4 i)]
   rw[Rn (step:=Cj l I y (i:Int)) (step':=Ah (l.length:Int) l I y (i:Int) (l.length:Int) (i:Int)) (fun s=>∃k:Nat,s.2=(k:Int)/\i<k/\k<=l.length) (by
    rintro⟨out,z⟩ ⟨k,J,R,hle⟩;have J:z=(k:Int):=J;subst J
    by_cases j:k<l.length
    .have ti:=aI (C i c);have tk:=aI (C k j)
     have ad:(l.getD i a').Time<=(l.getD k a').Time:=by
      rcases OK hg R j with h|h<;>omega
     have ew:i64.wrap ((l.getD i a').Time-(l.getD k a').Time)=(l.getD i a').Time-(l.getD k a').Time:=Z1 n';have U:i64.wrap ((l.getD k a').Time-(l.getD i a').Time)=(l.getD k a').Time-(l.getD i a').Time:=Z1 n'
     have ea:EU ((l.getD i a').Time-(l.getD k a').Time)=b0 ((l.getD k a').Time-(l.getD i a').Time):=by
      unfold EU
      by_cases q:(l.getD i a').Time-(l.getD k a').Time<0
      .rw[if_pos (decide_eq_true q),Z1 n'];congr 1;omega
      .rw[if_neg (by simpa using q)];congr 1;omega
     have es:FI=GM:=id rfl;simp only[Cj,Ah,DP,bz,j,c,decide_true,if_true,Aa,AB,e6,ew,U,ea,es,b8,be,b7];generalize((l.getD i a').Star==(l.getD k a').Star)=A;generalize bo ((l.getD k a').Time-(l.getD i a').Time<=I)=B;cases GM (l.getD i a') (l.getD k a') y with
     |none=>cases A<;>cases B<;>rfl
     |some b=>cases A<;>cases B<;>cases b<;>rfl
    .have c2:¬ (k:Int)<(l.length:Int):=n'
     simp[Cj,Ah,c2]) (by
    rintro⟨out,z⟩ s' ⟨k,J,R,hle⟩ e;have J:z=(k:Int):=J;subst J
    by_cases j:k<l.length
    .refine⟨k+1,?_,n',j⟩
     have hz:s'.2=i64.wrap ((k:Int)+1):=by
      simp only[Cj,bz,j,c,decide_true,if_true,Aa,AB]at e;obtain⟨_,e⟩:=AY e;split at e
      .obtain⟨_,e⟩:=AY e;cases e;rfl
      .cases e;rfl
     rw[hz,AW n']
    .have c2:¬ (k:Int)<(l.length:Int):=n'
     simp[Cj,c2]at e) (s:=(out,((i+1:Nat):Int))) ⟨i+1,rfl,n',c⟩]
  .have c2:¬ (i:Int)<(l.length:Int):=n'
   simp[Ck,Ac,c2]) (by
  rintro⟨out,z⟩ s' ⟨i,hi,hle⟩ e;have hi:z=(i:Int):=hi;subst hi
  by_cases c:i<l.length
  .simp only[Ck,bz,c,decide_true,if_true]at e;obtain⟨y,_,e⟩:=AO e;cases e
   exact⟨i+1,AW n',c⟩
  .have c2:¬ (i:Int)<(l.length:Int):=n'
   simp[Ck,c2]at e) (s:=(([]:List (List Int)),0)) ⟨0,rfl,Nat.zero_le _⟩
 rw[hw];simp only[FV,Dr,b9,b8,be,b7,AB];cases AE (Ac (l.length:Int) l I y (l.length:Int)) (([]:List (List Int)),0)<;>rfl
def qr(hl:l.length<=100)(R y:Int):∃ps z,CU l R y=b0 (ps,z)/\ps.length<=1000000:=by
 have hc:∀i k:Nat,i<l.length->k<l.length->∃b,DP (i:Int) (k:Int) l R y=b0 b:=fun i k hi I=>by
  have ha:∀n,(EU n).isSome=true:=fun n=>by unfold EU;split<;>rfl
  have hd:∀a b:AA,(FI a b y).isSome=true:=fun a b=>by
   unfold FI;split
   .rfl
   .split
    .rfl
    .split
     .rfl
     .obtain⟨v,hv⟩:=zX (ha (i64.wrap (a.Mag-b.Mag)));rw[hv];rfl
  unfold DP;simp only[Aa,hi,I,decide_true,AB,ha,hd,b7];exact⟨_,rfl⟩
 unfold CU;rw[GH n',b9];simp only[FV,b9,b8,be,b7,AB];split
 .exact⟨_,_,rfl,p'⟩
 .split
  .exact⟨_,_,rfl,p'⟩
  .obtain⟨r,hr,hq⟩:=DN (step:=Ac (l.length:Int) l R y (l.length:Int)) (fun s=>∃i:Nat,s.2=(i:Int)/\i<=l.length/\s.1.length<=100*i) (fun r=>r.length<=1000000) (fun s=>l.length-s.2.toNat) (by
    rintro⟨out,z⟩ ⟨i,hi,hle,j⟩;have hi:z=(i:Int):=hi;have j:out.length<=100*i:=j;subst hi
    by_cases J:i<l.length
    .left
     obtain⟨v,hv,U⟩:=DN (step:=Ah (l.length:Int) l R y (i:Int) (l.length:Int) (i:Int)) (fun s=>∃k:Nat,s.2=(k:Int)/\k<=l.length/\s.1.length<=100*i+k) (fun r=>r.length<=100*(i+1)) (fun s=>l.length-s.2.toNat) (by
      rintro⟨o2,z2⟩ ⟨k,I,ao,C⟩;have I:z2=(k:Int):=I;have C:o2.length<=100*i+k:=C;subst I
      by_cases c2:k<l.length
      .left;obtain⟨b,hb⟩:=hc i k J c2;simp only[Ah,bz,c2,decide_true,if_true,hb,b9,(Z4 k)];cases b with
       | true=>
        simp only[if_true];rw[Bl t',AB];exact⟨_,rfl,⟨k+1,rfl,c2,t'⟩,by simp only[e6];omega⟩
       | false=>
        simp only[cm,if_false];exact⟨_,rfl,⟨k+1,rfl,c2,A'⟩,by simp only[e6];omega⟩
      .right;have c3:¬ (k:Int)<(l.length:Int):=n'
       simp only[Ah,c3,decide_false,cm,if_false];exact⟨_,rfl,n'⟩) (s:=(out,((i+1:Nat):Int))) ⟨i+1,rfl,J,A'⟩
     simp only[Ac,bz,J,decide_true,if_true,(Z4 i),hv,b9];exact⟨_,rfl,⟨i+1,rfl,J,U⟩,by simp only[e6];omega⟩
    .right;have c2:¬ (i:Int)<(l.length:Int):=n'
     simp only[Ac,c2,decide_false,cm,if_false];exact⟨_,rfl,n'⟩) (s:=([],0)) ⟨0,rfl,Nat.zero_le _,p'⟩
   unfold BV;rw[hr];exact⟨_,_,rfl,hq⟩
end Go.Proofs.YtegmpdmpgmpiaaaGreatDoor
namespace Go.Proofs.YtegmpdmpgmpiaaaGreatDoor
open Go Go.RowKit Go.Proofs.YtegmpdmpgmpiaaaGreatDoor.l28
def yI(n:L8):L8:=[101,114,114,111,114,32]++n
variable{n:Int}
def NA{n:Nat}(h:n<=10000000):few n=true:=decide_eq_true n'
variable{s:GV}
def Rx(h:s.out.length<=10000000)(t:L8):Nq s t=b0 { s with out:=s.out++[t] }:=by
 unfold Nq;rw[NA h,AB]
theorem La(s:GV):JD s 0=b0 (ax,s):=rfl
def Zy{s:GV}(h:s.out.length<=10000000){z:Int}(j:z≠0):∃n,Dt z=b0 n/\n.length<=20/\JD s z=b0 (b5,{ s with out:=s.out++[yI n] }):=by
 obtain⟨n,I,C,l⟩:=Tp z;refine⟨n,I,l,?_⟩;unfold JD;rw[if_neg (by simpa using j),C,b9,As n',AB,Rx h];rfl
def AMr(d:Ad)(o out:List L8)(z:Int)(j:Ad)(r:Option GV):Prop := ∃s',r=b0 s'/\((z=0/\s'.d=j/\s'.out=o++out)\/(z≠0/\s'.d=d/\∃n,Dt z=b0 n/\s'.out=o++[yI n]))
def Wv{s:GV}(h:s.out.length<=1000000){n z:Int}(I:QY n):∃t,Av n=b0 t/\t.length<=21/\AMr s.d s.out [t] z s.d (Zf s n z):=by
 obtain⟨t,R,J,l⟩:=QV I;refine⟨t,R,l,?_⟩;unfold Zf
 by_cases j:z=0
 .subst j;rw[La,b9,if_neg p',J,b9];exact⟨_,Rx A' t,.inl ⟨rfl,rfl,rfl⟩⟩
 .obtain⟨m,C,_,q2⟩:=Zy (s:=s) n' j;rw[q2];exact⟨_,rfl,.inr ⟨j,rfl,m,C,rfl⟩⟩
def Ld(h:s.out.length<=1000000){z:Int}(j:z≠0){d J:Ad}(hd:s.d=d){o out:List L8}(ho:s.out=o)(k:Bool×GV->Option GV)(I:∀s,k (b5,s)=b0 s):AMr d o out z J ((JD s z).bind k):=by
 obtain⟨m,C,_,q2⟩:=Zy (s:=s) n' j;rw[q2,b9,I];exact⟨_,rfl,.inr ⟨j,hd,m,C,by rw[ho]⟩⟩
variable{x:L8}
def MR(j:x.length<=1048576):∃n b,Ma x=b0 (n,b)/\Bo x=b0 (n,b):=by
 refine⟨(CQ x).1,(CQ x).2,QJ j,?_⟩;rw[LJ j]
def ju{x:L8}(j:x.length<=1048576):∃n b,CN x=b0 (n,b)/\Ci x=b0 (n,b):=by
 obtain⟨y,I,C⟩:=lN j;exact⟨y.1,y.2,I,C⟩
def ABU(x:L8):NJ 101 x=(Ol 60 x).2/\(if NJ 101 x=b5 then x.drop 1 else x)=(Ol 60 x).1:=by
 cases x with
 |nil=>exact⟨rfl,rfl⟩
 | cons c r=>
  unfold NJ Ol
  by_cases h:c=60
  .subst h;simp
  .simp[h]
def QZ(s:GV)(x:L8)(h:s.texts.length<=1000):word s 120 x=b0 (b5,{ s with texts:=s.texts++[x] }):=by
 unfold word;rw[if_pos x',NA n',AB]
variable{b:Bool}
def Mt(s:GV)(e:Bo x=b0 (n,b))(h:s.nums.length<=1000):word s 110 x=b0 (b,{ s with nums:=s.nums++[n] }):=by
 unfold word;rw[if_neg x',if_pos x',e,b9,NA n',AB]
theorem jr(s:GV)(e:Ci x=b0 (n,b))(h:s.nums.length<=1000):word s 109 x=b0 (b,{ s with nums:=s.nums++[n],faint:=false }):=by
 have j:NJ 109 x=false:=rfl;unfold word;rw[if_neg x',if_neg x',j,if_neg x',e,b9,NA n',AB]
def AKH(s:GV)(e:Ci (Ol 60 x).1=b0 (n,b))(h:s.nums.length<=1000):word s 101 x=b0 (b,{ s with nums:=s.nums++[n],faint:=(Ol 60 x).2 }):=by
 obtain⟨f1,f2⟩:=ABU x;unfold word;rw[if_neg x',if_neg x',f2,f1,e,b9,NA n',AB]
def ABo(c:UInt8)(x:L8):(Ol c x).1.length<=x.length:=by
 cases x with
 |nil=>simp[Ol]
 |cons y r=>by_cases j:y=c<;>simp[Ol,j]
def wl(f:UInt8)(j x:L8)(r:List L8)(s:GV)(h:x.length<=1048576):Lk (f::j) (x::r) s=(word s f x).bind fun q=>if q.1 then Lk j r q.2 else b0 (ax,q.2):=by
 rw[Lk,decide_eq_true n',AB]
def wl0(r:List L8)(s:GV):Lk [] r s=b0 (b5,s):=by rw[Lk]
def qY(kinds:L8)(i:Nat)(x:L8)(r:List L8)(j:List Int)(f b:Bool)(I:i<kinds.length)(h2:i+1<j.length)(C:kinds.getD i 0=119):AZ kinds i (x::r) j f b=AZ kinds (i+1) r j f b:=by
 rw[AZ,decide_eq_true I,AB,decide_eq_true h2,AB,C,if_neg x',if_neg x',if_neg x']
variable{q:Bool}
def Zx(kinds:L8)(i:Nat)(e:Ma x=b0 (n,q))(r:List L8)(j:List Int)(f b:Bool)(I:i<kinds.length)(h2:i+1<j.length)(C:kinds.getD i 0=110):AZ kinds i (x::r) j f b=AZ kinds (i+1) r (j.set (i+1) n) f (b || !q):=by
 rw[AZ,decide_eq_true I,AB,decide_eq_true h2,AB,C,if_pos x',e,b9]
def AOT(kinds:L8)(i:Nat)(e:CN x=b0 (n,q))(r:List L8)(j:List Int)(f b:Bool)(I:i<kinds.length)(h2:i+1<j.length)(C:kinds.getD i 0=109):AZ kinds i (x::r) j f b=AZ kinds (i+1) r (j.set (i+1) n) f (b || !q):=by
 rw[AZ,decide_eq_true I,AB,decide_eq_true h2,AB,C,if_neg x',if_pos x',e,b9]
def rl_f(kinds:L8)(i:Nat)(J:x.length<=1048576)(e:CN (Ol 60 x).1=b0 (n,q))(r:List L8)(j:List Int)(f b:Bool)(I:i<kinds.length)(h2:i+1<j.length)(C:kinds.getD i 0=102):AZ kinds i (x::r) j f b=AZ kinds (i+1) r (j.set (i+1) n) (Ol 60 x).2 (b || !q):=by
 rw[AZ,decide_eq_true I,AB,decide_eq_true h2,AB,C,if_neg x',if_neg x',if_pos x',RU 60 n',b9,e,b9]
def lO(kinds form:L8)(args:List L8)(j:List Int)(f:Bool)(d:Ad)(o:List L8)(C:GV):Prop := ∃wrong,AZ kinds 0 args (dx (args.length+1) 0) ax ax=b0 (j,f,wrong) /\((wrong=b5/\∃s',Lk form args ⟨d,o,[],[],ax⟩=b0 (ax,s')/\s'.d=d/\s'.out=o)\/(wrong=ax/\Lk form args ⟨d,o,[],[],ax⟩=b0 (b5,C)))
section
variable {d:Ad}{o:List L8}{a b c e g:L8}
def AKd:lO [] [] [] [0] ax d o ⟨d,o,[],[],ax⟩:=⟨ax,rfl,.inr ⟨rfl,wl0 [] _⟩⟩
def qe(j:a.length<=1048576):lO [119] [120] [a] [0,0] ax d o ⟨d,o,[],[a],ax⟩:=by
 refine⟨ax,?_,.inr ⟨rfl,?_⟩⟩
 .rw[qY _ _ _ _ _ _ _ x' p' rfl];rfl
 .rw[wl _ _ _ _ _ j,QZ _ _ p',b9];exact wl0 [] _
def AEX(j:a.length<=1048576)(hb:b.length<=1048576):∃n,lO [119,110] [120,110] [a,b] [0,0,n] ax d o ⟨d,o,[n],[a],ax⟩:=by
 obtain⟨n,q,C,f1⟩:=MR hb;refine⟨n,!q,?_,?_⟩
 .rw[qY _ _ _ _ _ _ _ x' p' rfl,Zx _ _ C _ _ _ _ x' p' rfl];rfl
 .rw[wl _ _ _ _ _ j,QZ _ _ p',b9,if_pos rfl,wl _ _ _ _ _ hb,Mt _ f1 p',b9];cases q
  .exact .inl ⟨rfl,_,rfl,rfl,rfl⟩
  .exact .inr ⟨rfl,wl0 [] _⟩
def AEY(j:a.length<=1048576)(hb:b.length<=1048576):∃n m,lO [110,110] [110,110] [a,b] [0,n,m] ax d o ⟨d,o,[n,m],[],ax⟩:=by
 obtain⟨n,q,I,f1⟩:=MR j;obtain⟨m,r,C,f2⟩:=MR hb;refine⟨n,m,!q || !r,?_,?_⟩
 .rw[Zx _ _ I _ _ _ _ x' p' rfl,Zx _ _ C _ _ _ _ x' p' rfl];rfl
 .rw[wl _ _ _ _ _ j,Mt _ f1 p',b9];cases q
  .exact .inl ⟨rfl,_,rfl,rfl,rfl⟩
  .rw[if_pos rfl,wl _ _ _ _ _ hb,Mt _ f2 p',b9];cases r
   .exact .inl ⟨rfl,_,rfl,rfl,rfl⟩
   .exact .inr ⟨rfl,wl0 [] _⟩
def zl(C:a.length<=1048576)(hb:b.length<=1048576)(j:c.length<=1048576):∃n m,lO [110,119,110] [110,120,110] [a,b,c] [0,n,0,m] ax d o ⟨d,o,[n,m],[b],ax⟩:=by
 obtain⟨n,q,J,f1⟩:=MR C;obtain⟨m,r,I,f2⟩:=MR j;refine⟨n,m,!q || !r,?_,?_⟩
 .rw[Zx _ _ J _ _ _ _ x' p' rfl,qY _ _ _ _ _ _ _ x' p' rfl,Zx _ _ I _ _ _ _ x' p' rfl];rfl
 .rw[wl _ _ _ _ _ C,Mt _ f1 p',b9];cases q
  .exact .inl ⟨rfl,_,rfl,rfl,rfl⟩
  .rw[if_pos rfl,wl _ _ _ _ _ hb,QZ _ _ p',b9,if_pos rfl,wl _ _ _ _ _ j,Mt _ f2 p',b9];cases r
   .exact .inl ⟨rfl,_,rfl,rfl,rfl⟩
   .exact .inr ⟨rfl,wl0 [] _⟩
def wu(I:a.length<=1048576)(hb:b.length<=1048576)(C:c.length<=1048576)(j:e.length<=1048576):∃n m k,lO [119,110,110,110] [120,110,110,110] [a,b,c,e] [0,0,n,m,k] ax d o ⟨d,o,[n,m,k],[a],ax⟩:=by
 obtain⟨n,q,U,f1⟩:=MR hb;obtain⟨m,r,R,f2⟩:=MR C;obtain⟨k,t,J,f3⟩:=MR j;refine⟨n,m,k,(!q || !r) || !t,?_,?_⟩
 .rw[qY _ _ _ _ _ _ _ x' p' rfl,Zx _ _ U _ _ _ _ x' p' rfl,Zx _ _ R _ _ _ _ x' p' rfl,Zx _ _ J _ _ _ _ x' p' rfl];rfl
 .rw[wl _ _ _ _ _ I,QZ _ _ p',b9,if_pos rfl,wl _ _ _ _ _ hb,Mt _ f1 p',b9];cases q
  .exact .inl ⟨rfl,_,rfl,rfl,rfl⟩
  .rw[if_pos rfl,wl _ _ _ _ _ C,Mt _ f2 p',b9];cases r
   .exact .inl ⟨rfl,_,rfl,rfl,rfl⟩
   .rw[if_pos rfl,wl _ _ _ _ _ j,Mt _ f3 p',b9];cases t
    .exact .inl ⟨rfl,_,rfl,rfl,rfl⟩
    .exact .inr ⟨rfl,wl0 [] _⟩
def wv(R:a.length<=1048576)(hb:b.length<=1048576)(J:c.length<=1048576)(I:e.length<=1048576)(C:g.length<=1048576):∃n m k j,lO [119,110,110,109,109] [120,110,110,109,109] [a,b,c,e,g] [0,0,n,m,k,j] ax d o ⟨d,o,[n,m,k,j],[a],ax⟩:=by
 obtain⟨n,q,e1,f1⟩:=MR hb;obtain⟨m,r,e2,f2⟩:=MR J;obtain⟨k,t,e3,f3⟩:=ju I;obtain⟨j,u,U,f4⟩:=ju C;refine⟨n,m,k,j,((!q || !r) || !t) || !u,?_,?_⟩
 .rw[qY _ _ _ _ _ _ _ x' p' rfl,Zx _ _ e1 _ _ _ _ x' p' rfl,Zx _ _ e2 _ _ _ _ x' p' rfl,AOT _ _ e3 _ _ _ _ x' p' rfl,AOT _ _ U _ _ _ _ x' p' rfl];rfl
 .rw[wl _ _ _ _ _ R,QZ _ _ p',b9,if_pos rfl,wl _ _ _ _ _ hb,Mt _ f1 p',b9];cases q
  .exact .inl ⟨rfl,_,rfl,rfl,rfl⟩
  .rw[if_pos rfl,wl _ _ _ _ _ J,Mt _ f2 p',b9];cases r
   .exact .inl ⟨rfl,_,rfl,rfl,rfl⟩
   .rw[if_pos rfl,wl _ _ _ _ _ I,jr _ f3 p',b9];cases t
    .exact .inl ⟨rfl,_,rfl,rfl,rfl⟩
    .rw[if_pos rfl,wl _ _ _ _ _ C,jr _ f4 p',b9];cases u
     .exact .inl ⟨rfl,_,rfl,rfl,rfl⟩
     .exact .inr ⟨rfl,wl0 [] _⟩
def zm(C:a.length<=1048576)(hb:b.length<=1048576)(J:c.length<=1048576)(j:e.length<=1048576):∃n m f,lO [110,119,119,102] [110,120,120,101] [a,b,c,e] [0,n,0,0,m] f d o ⟨d,o,[n,m],[b,c],f⟩:=by
 obtain⟨n,q,U,f1⟩:=MR C;have I:=ABo 60 e;obtain⟨m,r,R,f2⟩:=ju (x:=(Ol 60 e).1) n';refine⟨n,m,(Ol 60 e).2,!q || !r,?_,?_⟩
 .rw[Zx _ _ U _ _ _ _ x' p' rfl,qY _ _ _ _ _ _ _ x' p' rfl,qY _ _ _ _ _ _ _ x' p' rfl,rl_f _ _ j R _ _ _ _ x' p' rfl];rfl
 .rw[wl _ _ _ _ _ C,Mt _ f1 p',b9];cases q
  .exact .inl ⟨rfl,_,rfl,rfl,rfl⟩
  .rw[if_pos rfl,wl _ _ _ _ _ hb,QZ _ _ p',b9,if_pos rfl,wl _ _ _ _ _ J,QZ _ _ p',b9,if_pos rfl,wl _ _ _ _ _ j,AKH _ f2 p',b9];cases r
   .exact .inl ⟨rfl,_,rfl,rfl,rfl⟩
   .exact .inr ⟨rfl,wl0 [] _⟩
end
def rF{log what:L8}(I:log.length<=1048576):∃r,Jm log what=b0 (r,if Gu log=0/\KZ what=ax then 2 else Gu log)/\(Gu log=0->r=Ws log (EI log)):=by
 unfold Jm;obtain⟨r,J,C⟩:=Qv I;rw[J];simp only[b9,JP,b8,b7,AB,be];refine⟨r,?_,C⟩
 by_cases h:Gu log=0
 .have j:(Gu log==0)=b5:=by rw[h];rfl
  cases R:KZ what
  .simp[j,h]
  .simp[j,h]
 .have j:(Gu log==0)=false:=beq_eq_false_iff_ne.2 h;simp only[j,Bool.false_and,cm,if_false,h,false_and]
def zL{l:List Int}(R:l.length<=1099511627776):∃y,Hp l=b0 y/\QY y:=by
 obtain⟨y,I,J⟩:=DN (step:=Io l (l.length:Int)) (fun s=>(∃i:Nat,s.2=(i:Int)/\i<=l.length)/\QY s.1) QY (fun s=>l.length-s.2.toNat) (by
  rintro⟨n,z⟩ ⟨⟨i,hi,hle⟩,j⟩;have hi:z=(i:Int):=hi;have j:QY n:=j;subst hi
  by_cases c:i<l.length
  .left;have C:(i:Int)<(l.length:Int):=n'
   simp only[Io,C,decide_true,if_true,Aa,c,AB,(Z4 i)];exact⟨_,rfl,⟨⟨i+1,rfl,c⟩,si _⟩,by simp only[e6];omega⟩
  .right;have C:¬ (i:Int)<(l.length:Int):=n'
   simp only[Io,C,decide_false,cm,if_false];exact⟨_,rfl,j⟩) (s:=(0,0)) ⟨⟨0,rfl,Nat.zero_le _⟩,by unfold QY;decide⟩
 unfold Hp;rw[I];exact⟨_,rfl,J⟩
theorem pk{log:L8}(h:Wc log){what:L8}(J:KZ what=b5):∃l,Ds log what=b0 (l,0)/\Em log what=b0 (l,0)/\l.length<=4000:=by
 have j:=h.code;have hlen:=h.len;unfold Ds Em;obtain⟨es,e2,h1,h2⟩:=RT (log:=log) n';obtain⟨r,e3,U⟩:=rF (log:=log) (what:=what) n';obtain rfl:=h1 j;obtain rfl:=U j;obtain⟨b1,b2,b3⟩:=WJ j;rw[e2,e3];have I:¬ (Gu log=0/\KZ what=ax):=fun c=>by rw[J]at c;exact absurd c.2 x'
 rw[if_neg I];simp only[b9,j,beq_self_eq_true,b6,cm,if_false,JY,J]
 have R:=Tr (step:=Bj what (EI log).1 ((EI log).1.length:Int)) (fun i=>((EI log).1.getD i a').What==what) (fun i=>((EI log).1.getD i a').Value) (EI log).1.length (r:=Of (α:=Int) (fun i=>((EI log).1.getD i a').What==what) (fun i=>((EI log).1.getD i a').Value) (EI log).1.length) (fun out i hi ho=>by
  simp only[Bj,JW,bz,hi,decide_true,if_true,Aa,AB,e6,b9,(Z4 i)];rw[Bl t',AB];split<;>rfl) (by simp[Bj])
 have hs:=Tr (step:=Gx what (Ws log (EI log))) (fun i=>((EI log).1.getD i a').What==what) (fun i=>((EI log).1.getD i a').Value) (EI log).1.length (r:=Of (α:=Int) (fun i=>((EI log).1.getD i a').What==what) (fun i=>((EI log).1.getD i a').Value) (EI log).1.length) (fun out i hi ho=>by
  have C:(Ws log (EI log)).list_=(EI log).1:=rfl;simp only[Gx,C,bz,hi,decide_true,if_true,Aa,AB,e6,b9,(Z4 i)];rw[Bl t',AB];split<;>rfl) (by
  have C:(Ws log (EI log)).list_=(EI log).1:=rfl;simp[Gx,C])
 unfold Ct;rw[R,hs];exact⟨_,rfl,rfl,Nat.le_trans (aX _ _ _) b3⟩
def YK{s:GV}(hs:s.out.length<=1000000){l:List L8}(J:l.length<=4000)(h:∀x∈l,x.length<=200):∃out,Gs l=b0 out/\vv out/\listed s l=b0 { s with out:=s.out++out }:=by
 obtain⟨a,C,j,I⟩:=QV (n:=(l.length:Int)) ⟨n',n'⟩;unfold Gs Iq listed;rw[b9,C,b9,As t',AB,Bl t',AB,NA n',AB,j,b9,As n',AB,Rx t'];refine⟨_,rfl,⟨t',fun s hs=>?_⟩,p'⟩;rcases cn.1 hs with q|q
 .have:=h s q;omega
 .obtain rfl:s=[111,107,32]++a:=by simpa using q
  simp;omega
def oa(p:AJ):L8:=bN p.Time++[32]++QB p.Mag
def AKf{p:AJ}(h:aH p=b5):QY p.Time/\-2000<=p.Mag/\p.Mag<=20000/\(oa p).length<=200:=by
 unfold aH at h;simp only[baT,dtE]at h;have j:QY p.Time:=⟨n',n'⟩;have:=Fv j;have:=(QA h.2.1 h.2.2).2;exact⟨j,h.2.1,h.2.2,by unfold oa;simp;omega⟩
def jY:∀(c:List AJ) (acc:List L8),(∀p∈c,aH p=b5)->acc.length+c.length<=1000->Se acc c=b0 (acc++c.map oa)
 |[],acc,_,_=>by rw[Se];simp
 | p::r,acc,h,J=>by
  obtain⟨C,h2,j,_⟩:=AKf (h p p');have U:=Fv C;have R:=(QA h2 j).2;rw[bh]at J;rw[Se,KL C,b9,As n',AB,Qw h2 j,b9,As n',NA n',bX,AB,jY r _ (fun q I=>h q (bS _ I)) t'];simp[oa]
def yR{c:List AJ}(h:∀p∈c,aH p=b5)(R:c.length<=1000):AE (Dn c (c.length:Int)) (([]:List L8),0)=b0 (c.map oa):=by
 have:=MK (step:=Dn c (c.length:Int)) (fun i=>(c.take i).map oa) c.length (r:=c.map oa) (fun i hi=>by
  obtain⟨C,h2,j,_⟩:=AKf (h _ (Hu hi a'));have J:=Fv C;have I:=(QA h2 j).2;simp only[Dn,bz,hi,decide_true,if_true,Aa,AB,e6,Kv C,RS h2 j,b9,(Z4 i)];rw[As (by simp only[bh,df];omega),AB,As (by simp only[bR,bh,df];omega),AB,Bl t',AB,bI hi,ct,Cl hi];rfl) (by simp[Dn])
 simpa using this
def tb:∀(l:List AU) (acc:List L8),(∀e∈l,KT e=b5)->acc.length+l.length<=10000->nx acc l=b0 (acc++l.map IE)
 |[],acc,_,_=>by rw[nx];simp
 | e::r,acc,h,C=>by
  rw[bh]at C;rw[nx,PJ (h e p'),b9,NA n',AB,tb r _ (fun q j=>h q (bS _ j)) t'];simp
variable{l:List Int}
def AEr(d:Ad)(z:Int){l:List AU}(h:∀e∈l,KT e=b5)(C:l.length<=10000):AE (CE d z l (l.length:Int)) (([]:List L8),0)=b0 (l.map IE):=by
 have:=MK (step:=CE d z l (l.length:Int)) (fun i=>(l.take i).map IE) l.length (r:=l.map IE) (fun i hi=>by
  have j:=h _ (Hu hi a');simp only[CE,bz,hi,decide_true,if_true,Aa,AB,e6,Zd j,b9,(Z4 i)];rw[Bl t',AB,bI hi,ct,Cl hi];rfl) (by simp[CE])
 simpa using this
def aZ(a x:L8)(r:List L8)(p:L8):bs (a::x::r) p=a++p++bs (x::r) p:=by simp[bs]
def ow:∀(l:List Int) (i:Nat) (acc:L8),(∀x∈l,QY x)->acc.length+30*l.length<=100000->WC i acc l=b0 (if l=[]then acc else(if 0<i then acc++[32]else acc)++bs (l.map bN) [32])
 |[],i,acc,_,_=>by rw[WC,if_pos rfl]
 | n::r,i,acc,h,I=>by
  have j:=h n p';have J:=Fv j;rw[bh]at I;have R:(if 0<i then acc++[32]else acc).length<=acc.length+1:=by split<;>simp
  rw[WC,decide_eq_true n',AB,KL j,b9,As n',AB,ow r (i+1) _ (fun q C=>h q (bS _ C)) (by rw[bR];omega)];cases r with
  |nil=>rw[if_pos rfl,if_neg (cl _ _)];simp[bs]
  | cons x r=>
   rw[if_neg (cl _ _),if_neg (cl _ _),if_pos (Nat.succ_pos i),c6,c6,c6,aZ];simp
def xe(C:l.length<=100)(h:∀x∈l,QY x):MG l=b0 (bs (l.map bN) [32])/\(bs (l.map bN) [32]).length<=2200:=by
 have J:=oL (m:=21) [32] (l:=l.map bN) fun s hs=>by
  obtain⟨x,j,rfl⟩:=cA.1 hs;exact Fv (h x j)
 rw[ds]at J;have I:l.length*(21+([32]:L8).length)<=100*22:=Nat.mul_le_mul C p'
 have:=MK (step:=Hq l (l.length:Int)) (fun i=>(l.take i).map bN) l.length (r:=l.map bN) (fun i hi=>by
  simp only[Hq,bz,hi,decide_true,if_true,Aa,AB,e6,Kv (h _ (Hu hi a')),b9,(Z4 i)];rw[Bl t',AB,bI hi,ct,Cl hi];rfl) (by simp[Hq])
 refine⟨?_,n'⟩;unfold MG;rw[show AE (Hq l (l.length:Int)) (([]:List L8),0)=b0 (l.map bN) by simpa using this,b9];unfold YT kN;rw[if_pos t'];rfl
def AFB(h:l≠[]):bs (l.map bN) [32]≠[]:=by
 have hi:∀n,bN n≠[]:=fun n e=>by
  unfold bN at e;split at e
  .cases e
  .have:=LN n.toNat;rw[e]at this;simp at this
 cases l with
 |nil=>exact absurd rfl h
 | cons n r=>
  cases r with
  |nil=>simpa[bs]using hi n
  | cons x r=>
   rw[c6,c6,aZ];have:=hi n;simp[this]
structure pt(d:Ad):Prop where
 gs:KG d.Stars=b5
 ls:d.Stars.length<=60
 ge:FP d.Estimates=b5
 le:d.Estimates.length<=100
 lo:Wc d.Log
def Sr(d:Ad)(o:List L8)(c:Cm)(w:L8)(C:GV):Prop := ∃out z j,Ab d c=b0 (out,z,j)/\vv out/\(z=0->pt j)/\AMr d o out z j (WK C w)
theorem Nt(s:L8)(z:Int):DY s z=b0 ([s],z):=rfl
section
variable {d:Ad}{o:List L8}(hd:pt d)(ho:o.length<=1000000)
include hd ho
def yA(a b c e g:L8)(n m k j:Int):Sr d o ⟨[[115,116,97,114],a,b,c,e,g],[0,0,n,m,k,j],ax,ax⟩ [115,116,97,114] ⟨d,o,[n,m,k,j],[a],ax⟩:=by
 have aa:=hd.ls;have hle:=hd.le;have C:=AGa (l:=d.Stars) (x:=⟨a,n,m,k,j⟩) n';have J:=ADb (l:=d.Stars) (x:=⟨a,n,m,k,j⟩) n';have U:=sg (l:=d.Stars) n' ⟨a,n,m,k,j⟩;have R:=Yi (l:=d.Stars) n' ⟨a,n,m,k,j⟩;generalize Yq d.Stars ⟨a,n,m,k,j⟩=r at C J U R;obtain⟨t,t1,t2,t3⟩:=Ss (d:=⟨r.1,d.Estimates,d.Log⟩) A' A';refine⟨[t],r.2,⟨r.1,d.Estimates,d.Log⟩,?_,NF n',fun I=>?_,?_⟩
 .unfold Ab DE;rw[show AS 0 ([[115,116,97,114],a,b,c,e,g]:List L8).length=b5 from rfl,AB,if_pos (by rfl),AB,if_pos (by rfl)];simp only[b4,au];rw[show AS 1 ([[115,116,97,114],a,b,c,e,g]:List L8).length=b5 from rfl,AB,show AS 2 ([0,0,n,m,k,j]:List Int).length=b5 from rfl,AB,show AS 3 ([0,0,n,m,k,j]:List Int).length=b5 from rfl,AB,show AS 4 ([0,0,n,m,k,j]:List Int).length=b5 from rfl,AB,show AS 5 ([0,0,n,m,k,j]:List Int).length=b5 from rfl,AB,U,b9,t1,b9,Nt];rfl
 .obtain⟨g1,g2,g3⟩:=C I;exact⟨g1,g2,hd.ge,hd.le,hd.lo⟩
 .unfold WK star;rw[if_pos (by rfl),show(bo (1<=([a]:List L8).length)&&bo (4<=([n,m,k,j]:List Int).length))=b5 from rfl,AB];simp only[b4,au];rw[R,b9]
  by_cases I:r.2=0
  .rw[I,La,b9,if_neg (by exact nF)];simp only;rw[t2,b9];exact⟨_,Rx A' t,.inl ⟨rfl,rfl,rfl⟩⟩
  .exact Ld A' I rfl rfl _ fun s=>rfl
def ABW(a b c e:L8)(n m:Int)(f:Bool):Sr d o ⟨[[101,115,116],a,b,c,e],[0,n,0,0,m],f,ax⟩ [101,115,116] ⟨d,o,[n,m],[b,c],f⟩:=by
 have ab:=hd.ls;have hle:=hd.le;obtain⟨z,z1,z2⟩:=UU (l:=d.Stars) n' b
 have hex:Ab d ⟨[[101,115,116],a,b,c,e],[0,n,0,0,m],f,ax⟩=(EC d.Stars b).bind fun y=>if(!y)then b0 (([]:List L8),3,d)else(Ce d.Estimates ⟨n,b,c,m,f⟩).bind fun y=>(DD (Ad.mk d.Stars y.1 d.Log)).bind fun t=>b0 ([t],y.2,(Ad.mk d.Stars y.1 d.Log)):=by
  unfold Ab DE;rw[show AS 0 ([[101,115,116],a,b,c,e]:List L8).length=b5 from rfl,AB,if_neg (by exact nF),if_pos (by rfl),AB,if_neg (by exact nF),if_pos (by rfl)];simp only[b4,au];rw[show AS 2 ([[101,115,116],a,b,c,e]:List L8).length=b5 from rfl,AB,show AS 3 ([[101,115,116],a,b,c,e]:List L8).length=b5 from rfl,show AS 1 ([0,n,0,0,m]:List Int).length=b5 from rfl,show AS 4 ([0,n,0,0,m]:List Int).length=b5 from rfl];simp only[AB,Nt,b9];cases EC d.Stars b with
  |none=>rfl
  | some y=>
   cases y with
   |false=>rfl
   | true=>
    cases Ce d.Estimates ⟨n,b,c,m,f⟩with
    |none=>rfl
    | some q=>
     simp only[b9,b6,cm,if_false];cases DD (Ad.mk d.Stars q.1 d.Log)<;>rfl
 have J:WK ⟨d,o,[n,m],[b,c],f⟩ [101,115,116]=est ⟨d,o,[n,m],[b,c],f⟩:=by
  unfold WK;rw[if_neg (by exact nF),if_pos (by rfl)]
 unfold Sr;rw[hex,J,Ud n',b9];unfold est;rw[show bo (1<=([b,c]:List L8).length)=b5 from rfl,AB];simp only[b4,au];rw[z1,b9,z2];cases hs:QI d.Stars b with
 | false=>
  refine⟨[],3,d,rfl,⟨p',p'⟩,fun h=>absurd h x',?_⟩;rw[if_pos (by rfl)];exact Ld A' x' rfl rfl _ fun s=>rfl
 | true=>
  have j:=AGb (l:=d.Estimates) (e:=⟨n,b,c,m,f⟩) n';have I:=ADe (l:=d.Estimates) (e:=⟨n,b,c,m,f⟩);have U:=fK (l:=d.Estimates) n' ⟨n,b,c,m,f⟩;have R:=TR (l:=d.Estimates) n' ⟨n,b,c,m,f⟩;generalize Yr d.Estimates ⟨n,b,c,m,f⟩=r at j I U R;obtain⟨t,t1,t2,t3⟩:=Ss (d:=⟨d.Stars,r.1,d.Log⟩) A' A';refine⟨[t],r.2,⟨d.Stars,r.1,d.Log⟩,?_,NF n',fun C=>?_,?_⟩
  .rw[if_neg (by exact nF),U,b9,t1];rfl
  .obtain⟨g1,g2,g3⟩:=j C;exact⟨hd.gs,hd.ls,g1,g2,hd.lo⟩
  .rw[if_neg (by exact nF),show(bo (2<=([b,c]:List L8).length)&&bo (2<=([n,m]:List Int).length))=b5 from rfl,AB,R,b9]
   by_cases C:r.2=0
   .rw[C,La,b9,if_neg (by exact nF)];simp only;rw[t2,b9];exact⟨_,Rx A' t,.inl ⟨rfl,rfl,rfl⟩⟩
   .exact Ld A' C rfl rfl _ fun s=>rfl
def rV(a b c:L8)(n m:Int):Sr d o ⟨[[101,110,116,101,114],a,b,c],[0,n,0,m],ax,ax⟩ [101,110,116,101,114] ⟨d,o,[n,m],[b],ax⟩:=by
 have ad:=hd.lo.len;obtain⟨R,z,e1,ok⟩:=ft hd.lo ⟨n,b,m⟩;obtain⟨j,z2,f1,f2⟩:=fw (log:=d.Log) (e:=⟨n,b,m⟩) n';have hq:(j,z2)=(R,z):=Option.some.inj (f2.symm.trans e1);obtain⟨rfl,rfl⟩:=Prod.mk.inj hq
 have hex:Ab d ⟨[[101,110,116,101,114],a,b,c],[0,n,0,m],ax,ax⟩=if(!(z2==0))then b0 (([]:List L8),z2,(Ad.mk d.Stars d.Estimates j))else(Ds j b).bind fun y=>(Hp y.1).bind fun v=>(Av v).bind fun t=>b0 ([t],y.2,(Ad.mk d.Stars d.Estimates j)):=by
  unfold Ab DE;rw[show AS 0 ([[101,110,116,101,114],a,b,c]:List L8).length=b5 from rfl,AB,if_neg (by exact nF),if_neg (by exact nF),if_pos (by rfl),AB,if_neg (by exact nF),if_neg (by exact nF)];simp only[b4,au];rw[show AS 1 ([0,n,0,m]:List Int).length=b5 from rfl,AB,show AS 2 ([[101,110,116,101,114],a,b,c]:List L8).length=b5 from rfl,AB,show AS 3 ([0,n,0,m]:List Int).length=b5 from rfl,AB,f2];simp only[Nt,b9];cases(z2==0)with
  |false=>rfl
  | true=>
   cases Ds j b with
   |none=>rfl
   | some y=>
    cases hs:Hp y.1 with
    |none=>simp[hs]
    |some v=>cases U:Av v<;>simp[hs,U]
 have J:WK ⟨d,o,[n,m],[b],ax⟩ [101,110,116,101,114]=enter ⟨d,o,[n,m],[b],ax⟩:=by
  unfold WK;rw[if_neg (by exact nF),if_neg (by exact nF),if_neg (by exact nF),if_neg (by exact nF),if_pos (by rfl)]
 unfold Sr;rw[hex,J];unfold enter;rw[show(bo (1<=([b]:List L8).length)&&bo (2<=([n,m]:List Int).length))=b5 from rfl,AB];simp only[b4,au];rw[f1,b9]
 by_cases I:z2=0
 .subst I;obtain⟨C,hn⟩:=ok rfl;obtain⟨vs,v1,v2,v3⟩:=pk C hn;obtain⟨v,s1,s2⟩:=zL (l:=vs) n';obtain⟨t,t1,t2,t3⟩:=QV s2;refine⟨[t],0,⟨d.Stars,d.Estimates,j⟩,?_,NF n',fun _=>⟨hd.gs,hd.ls,hd.ge,hd.le,C⟩,?_⟩
  .rw[if_neg (by exact nF),v1,b9,s1,b9,t1];rfl
  .rw[La,b9,if_neg (by exact nF)];simp only[b4,au];rw[v2,b9,zM,s1,b9,t2,b9,show bo (1<=([b]:List L8).length)=b5 from rfl,AB];exact⟨_,Rx A' t,.inl ⟨rfl,rfl,rfl⟩⟩
 .refine⟨[],z2,⟨d.Stars,d.Estimates,j⟩,by rw[if_pos (by simpa using I)],⟨p',p'⟩,fun h=>absurd h I,?_⟩;exact Ld A' I rfl rfl _ fun s=>rfl
def yB(a:L8):Sr d o ⟨[[108,97,115,116],a],[0,0],ax,ax⟩ [108,97,115,116] ⟨d,o,[],[a],ax⟩:=by
 have hle:=hd.le;obtain⟨e,z,e1,U,R,J,I,C⟩:=pq (l:=d.Estimates) n' a;obtain⟨t,t1,t2,t3⟩:=AAl J I C;refine⟨[t],z,d,?_,NF n',fun _=>hd,?_⟩
 .unfold Ab;rw[show AS 0 ([[108,97,115,116],a]:List L8).length=b5 from rfl,AB,if_neg (by exact nF),if_neg (by exact nF),if_neg (by exact nF),if_neg (by exact nF),if_neg (by exact nF),if_neg (by exact nF),if_neg (by exact nF),if_pos (by rfl),show AS 1 ([[108,97,115,116],a]:List L8).length=b5 from rfl,AB];simp only[b4,au];rw[e1,b9,t1,b9,Nt];rfl
 .unfold WK last;rw[if_neg (by exact nF),if_neg (by exact nF),if_pos (by rfl),show bo (1<=([a]:List L8).length)=b5 from rfl,AB];simp only[au];rw[U,b9]
  by_cases j:z=0
  .subst j;rw[La,b9,if_neg (by exact nF)];simp only;rw[t3 (R rfl),b9,decide_eq_true p',decide_eq_true t',bX,AB,bR,List.length_singleton,Nat.add_sub_cancel,List.take_left];exact⟨_,Rx A' t,.inl ⟨rfl,rfl,rfl⟩⟩
  .exact Ld A' j rfl rfl _ fun s=>rfl
def rU(a b:L8)(n m:Int):Sr d o ⟨[[112,97,105,114,115],a,b],[0,n,m],ax,ax⟩ [112,97,105,114,115] ⟨d,o,[n,m],[],ax⟩:=by
 have hle:=hd.le;obtain⟨ps,z,C,I⟩:=qr hle n m;have j:=AAJ hd.ge hle n m;rw[C]at j;obtain⟨t,t1,t2,t3⟩:=Wv (s:=⟨d,o,[n,m],[],ax⟩) ho (n:=(ps.length:Int)) (z:=z) ⟨n',n'⟩;refine⟨[t],z,d,?_,NF n',fun _=>hd,?_⟩
 .unfold Ab FW;rw[show AS 0 ([[112,97,105,114,115],a,b]:List L8).length=b5 from rfl,AB,if_neg (by exact nF),if_neg (by exact nF),if_neg (by exact nF),if_neg (by exact nF),if_neg (by exact nF),if_neg (by exact nF),if_neg (by exact nF),if_neg (by exact nF),if_pos (by rfl),show AS 1 ([0,n,m]:List Int).length=b5 from rfl,AB,show AS 2 ([0,n,m]:List Int).length=b5 from rfl,AB];simp only[b4,au];rw[C,b9,b9,t1,b9,Nt];rfl
 .unfold WK;rw[if_neg (by exact nF),if_neg (by exact nF),if_neg (by exact nF),if_pos (by rfl),show bo (2<=([n,m]:List Int).length)=b5 from rfl,AB];simp only[b4,au];rw[j,b9];exact t3
theorem ABV:Sr d o ⟨[[108,111,103]],[0],ax,ax⟩ [108,111,103] ⟨d,o,[],[],ax⟩:=by
 have j:=hd.lo.code;have ad:=hd.lo.len;obtain⟨es,e1,I,q2⟩:=RT (log:=d.Log) n';obtain⟨r,e2,q3⟩:=Qv (log:=d.Log) n';obtain rfl:=I j;obtain rfl:=q3 j;obtain⟨b1,b2,b3⟩:=WJ j;have C:∀e∈(EI d.Log).1,KT e=true:=(QC d.Log).ok
 obtain⟨out,U,R,J⟩:=YK (s:=⟨d,o,[],[],ax⟩) ho (l:=(EI d.Log).1.map IE) (by simpa using b3) fun x hx=>by
  obtain⟨e,he,rfl⟩:=cA.1 hx;have:=Ms (C e he);omega
 refine⟨out,0,d,?_,R,fun _=>hd,?_⟩
 .unfold Ab;rw[show AS 0 ([[108,111,103]]:List L8).length=b5 from rfl,AB,if_neg (by exact nF),if_neg (by exact nF),if_neg (by exact nF),if_neg (by exact nF),if_neg (by exact nF),if_neg (by exact nF),if_neg (by exact nF),if_neg (by exact nF),if_neg (by exact nF),e1,b9];simp only;rw[AEr d _ C n',b9,U,b9,j]
 .unfold WK log;rw[if_neg (by exact nF),if_neg (by exact nF),if_neg (by exact nF),if_neg (by exact nF),if_neg (by exact nF),if_pos (by rfl),e2,b9];have hr:(Ws d.Log (EI d.Log)).list_=(EI d.Log).1:=rfl;simp only[hr];rw[NA n',AB,tb _ _ C t',b9,b',J];exact⟨_,rfl,.inl ⟨rfl,rfl,rfl⟩⟩
def rW(a:L8):Sr d o ⟨[[99,117,114,118,101],a],[0,0],ax,ax⟩ [99,117,114,118,101] ⟨d,o,[],[a],ax⟩:=by
 have hle:=hd.le;obtain⟨c,z,e1,e2,l1,C⟩:=OF (l:=d.Estimates) n' a
 have hex:Ab d ⟨[[99,117,114,118,101],a],[0,0],ax,ax⟩=if(!(z==0))then b0 (([]:List L8),z,d)else(Gs (c.map oa)).bind fun y=>b0 (y,0,d):=by
  unfold Ab BX;rw[show AS 0 ([[99,117,114,118,101],a]:List L8).length=b5 from rfl,AB,if_neg (by exact nF),if_neg (by exact nF),if_neg (by exact nF),if_pos (by rfl),show AS 1 ([[99,117,114,118,101],a]:List L8).length=b5 from rfl,AB];simp only[b4,au];rw[e1,b9];simp only[AB];cases(z==0)with
  |false=>rfl
  | true=>
   simp only[b6,cm,if_false];rw[if_neg (by exact nF),if_neg (by exact nF),if_neg (by exact nF),yR C n',b9];cases Gs (c.map oa)<;>rfl
 have I:WK ⟨d,o,[],[a],ax⟩ [99,117,114,118,101]=Sp ⟨d,o,[],[a],ax⟩ [99,117,114,118,101]:=by
  unfold WK;rw[if_neg (by exact nF),if_neg (by exact nF),if_neg (by exact nF),if_neg (by exact nF),if_neg (by exact nF),if_neg (by exact nF)]
 unfold Sr;rw[hex,I];unfold Sp;rw[show bo (1<=([a]:List L8).length)=b5 from rfl,AB];simp only[au];rw[e2,b9]
 by_cases j:z=0
 .subst j
  obtain⟨out,J,q2,q3⟩:=YK (s:=⟨d,o,[],[a],ax⟩) ho (l:=c.map oa) (by rw[ds];omega) fun x R=>by
   obtain⟨p,U,rfl⟩:=cA.1 R;exact(AKf (C p U)).2.2.2
  refine⟨out,0,d,by rw[if_neg (by exact nF),J];rfl,q2,fun _=>hd,?_⟩;rw[La,b9,if_neg (by exact nF)];simp only;rw[if_pos (by rfl),NA n',AB];unfold curve;rw[jY c [] C t',b9,b',q3];exact⟨_,rfl,.inl ⟨rfl,rfl,rfl⟩⟩
 .refine⟨[],z,d,by rw[if_pos (by simpa using j)],⟨p',p'⟩,fun h=>absurd h j,?_⟩;exact Ld A' j rfl rfl _ fun s=>rfl
def ABX(a:L8):Sr d o ⟨[[97,109,112],a],[0,0],ax,ax⟩ [97,109,112] ⟨d,o,[],[a],ax⟩:=by
 have hle:=hd.le;obtain⟨c,z,J,I,U,R⟩:=OF (l:=d.Estimates) n' a;obtain⟨v,y,f1,f2,r1⟩:=fJ (c:=c) n';obtain⟨t,t1,t2,t3⟩:=Wv (s:=⟨d,o,[],[a],ax⟩) ho (n:=v) (z:=y) r1
 have hex:Ab d ⟨[[97,109,112],a],[0,0],ax,ax⟩=if(!(z==0))then b0 (([]:List L8),z,d)else b0 ([t],y,d):=by
  unfold Ab BX;rw[show AS 0 ([[97,109,112],a]:List L8).length=b5 from rfl,AB,if_neg (by exact nF),if_neg (by exact nF),if_neg (by exact nF),if_neg (by exact nF),if_pos (by rfl),show AS 1 ([[97,109,112],a]:List L8).length=b5 from rfl,AB];simp only[b4,au];rw[J,b9];simp only[AB];cases(z==0)with
  |false=>rfl
  | true=>
   simp only[b6,cm,if_false];rw[if_pos (by rfl),f1,b9,t1,b9,Nt];rfl
 have C:WK ⟨d,o,[],[a],ax⟩ [97,109,112]=Sp ⟨d,o,[],[a],ax⟩ [97,109,112]:=by
  unfold WK;rw[if_neg (by exact nF),if_neg (by exact nF),if_neg (by exact nF),if_neg (by exact nF),if_neg (by exact nF),if_neg (by exact nF)]
 unfold Sr;rw[hex,C];unfold Sp;rw[show bo (1<=([a]:List L8).length)=b5 from rfl,AB];simp only[au];rw[I,b9]
 by_cases j:z=0
 .subst j;refine⟨[t],y,d,by rw[if_neg (by exact nF)],NF n',fun _=>hd,?_⟩;rw[La,b9,if_neg (by exact nF)];simp only;rw[if_neg (by exact nF),if_pos (by rfl),f2,b9];exact t3
 .refine⟨[],z,d,by rw[if_pos (by simpa using j)],⟨p',p'⟩,fun h=>absurd h j,?_⟩;exact Ld A' j rfl rfl _ fun s=>rfl
def yD(a b C e:L8)(n m k:Int):Sr d o ⟨[[98,101,115,116],a,b,C,e],[0,0,n,m,k],ax,ax⟩ [98,101,115,116] ⟨d,o,[n,m,k],[a],ax⟩:=by
 have hle:=hd.le;obtain⟨c,z,R,J,l1,U⟩:=OF (l:=d.Estimates) n' a;obtain⟨v,y,f1,f2,r1⟩:=Yz (c:=c) (x:=⟨n,m,k⟩) n';obtain⟨t,t1,t2,t3⟩:=Wv (s:=⟨d,o,[n,m,k],[a],ax⟩) ho (n:=v) (z:=y) r1
 have hex:Ab d ⟨[[98,101,115,116],a,b,C,e],[0,0,n,m,k],ax,ax⟩=if(!(z==0))then b0 (([]:List L8),z,d)else b0 ([t],y,d):=by
  unfold Ab BX;rw[show AS 0 ([[98,101,115,116],a,b,C,e]:List L8).length=b5 from rfl,AB,if_neg (by exact nF),if_neg (by exact nF),if_neg (by exact nF),if_neg (by exact nF),if_neg (by exact nF),if_pos (by rfl),show AS 1 ([[98,101,115,116],a,b,C,e]:List L8).length=b5 from rfl,AB];simp only[b4,au];rw[R,b9];simp only[AB];cases(z==0)with
  |false=>rfl
  | true=>
   simp only[b6,cm,if_false];rw[if_neg (by exact nF),if_pos (by rfl),show AS 2 ([0,0,n,m,k]:List Int).length=b5 from rfl,AB,show AS 3 ([0,0,n,m,k]:List Int).length=b5 from rfl,AB,show AS 4 ([0,0,n,m,k]:List Int).length=b5 from rfl,AB,f1,b9,t1,b9,Nt];rfl
 have I:WK ⟨d,o,[n,m,k],[a],ax⟩ [98,101,115,116]=Sp ⟨d,o,[n,m,k],[a],ax⟩ [98,101,115,116]:=by
  unfold WK;rw[if_neg (by exact nF),if_neg (by exact nF),if_neg (by exact nF),if_neg (by exact nF),if_neg (by exact nF),if_neg (by exact nF)]
 unfold Sr;rw[hex,I];unfold Sp;rw[show bo (1<=([a]:List L8).length)=b5 from rfl,AB];simp only[au];rw[J,b9]
 by_cases j:z=0
 .subst j;refine⟨[t],y,d,by rw[if_neg (by exact nF)],NF n',fun _=>hd,?_⟩;rw[La,b9,if_neg (by exact nF)];simp only;rw[if_neg (by exact nF),if_neg (by exact nF),if_pos (by rfl),show bo (3<=([n,m,k]:List Int).length)=b5 from rfl,AB];simp only[b4,au];rw[f2,b9];exact t3
 .refine⟨[],z,d,by rw[if_pos (by simpa using j)],⟨p',p'⟩,fun h=>absurd h j,?_⟩;exact Ld A' j rfl rfl _ fun s=>rfl
def yC(a b:L8)(n:Int):Sr d o ⟨[[102,111,108,100],a,b],[0,0,n],ax,ax⟩ [102,111,108,100] ⟨d,o,[n],[a],ax⟩:=by
 have hle:=hd.le;obtain⟨c,z,e1,e2,l1,p1⟩:=OF (l:=d.Estimates) n' a;obtain⟨q,y,f1,f2,q1,q2⟩:=dj (e:=⟨0,n⟩) (c:=c) l1;have hR:∀x∈q,QY x:=fun x hx=>by have:=q2 x hx;exact⟨n',n'⟩
 obtain⟨j1,j2⟩:=xe q1 hR;obtain⟨t,I⟩:∃t,t=if q=[]then([45]:L8)else bs (q.map bN) [32]:=⟨_,rfl⟩
 have J:t.length<=5000:=by
  rw[I];split
  .simp
  .omega
 have hex:Ab d ⟨[[102,111,108,100],a,b],[0,0,n],ax,ax⟩=if(!(z==0))then b0 (([]:List L8),z,d)else b0 ([t],y,d):=by
  unfold Ab BX;rw[show AS 0 ([[102,111,108,100],a,b]:List L8).length=b5 from rfl,AB,if_neg (by exact nF),if_neg (by exact nF),if_neg (by exact nF),if_neg (by exact nF),if_neg (by exact nF),if_neg (by exact nF),if_pos (by rfl),show AS 1 ([[102,111,108,100],a,b]:List L8).length=b5 from rfl,AB];simp only[b4,au];rw[e1,b9];simp only[AB];cases(z==0)with
  |false=>rfl
  | true=>
   simp only[b6,cm,if_false];rw[if_neg (by exact nF),if_neg (by exact nF),if_pos (by rfl),show AS 2 ([0,0,n]:List Int).length=b5 from rfl,AB,f1,b9];simp only
   by_cases j:q=[]
   .rw[if_pos (by simp[j]),Nt,I,if_pos j];rfl
   .have U:((q.length:Int)==0)=ax:=by
     have:=List.length_pos_iff.2 j;rw[beq_eq_false_iff_ne];omega
    rw[U,if_neg (by exact nF),j1,b9,Nt,I,if_neg j];rfl
 have aa:WK ⟨d,o,[n],[a],ax⟩ [102,111,108,100]=Sp ⟨d,o,[n],[a],ax⟩ [102,111,108,100]:=by
  unfold WK;rw[if_neg (by exact nF),if_neg (by exact nF),if_neg (by exact nF),if_neg (by exact nF),if_neg (by exact nF),if_neg (by exact nF)]
 unfold Sr;rw[hex,aa];unfold Sp;rw[show bo (1<=([a]:List L8).length)=b5 from rfl,AB];simp only[au];rw[e2,b9]
 by_cases C:z=0
 .subst C;refine⟨[t],y,d,by rw[if_neg (by exact nF)],NF J,fun _=>hd,?_⟩;rw[La,b9,if_neg (by exact nF)];simp only;rw[if_neg (by exact nF),if_neg (by exact nF),if_neg (by exact nF)];unfold ABQ;rw[show bo (1<=([n]:List Int).length)=b5 from rfl,AB];simp only[au];rw[f2,b9]
  by_cases hy:y=0
  .subst hy;rw[La,b9,if_neg (by exact nF)];simp only;rw[NA n',AB,ow q 0 [] hR t',b9]
   have R:(if(if q=[]then([]:L8)else(if 0<0 then([]:L8)++[32]else [])++bs (q.map bN) [32])=[]then([45]:L8)else if q=[]then []else(if 0<0 then([]:L8)++[32]else [])++bs (q.map bN) [32])=t:=by
    rw[I]
    by_cases j:q=[]
    .simp[j]
    .have:=AFB j;simp[j,this]
   rw[R];exact⟨_,Rx A' t,.inl ⟨rfl,rfl,rfl⟩⟩
  .exact Ld A' hy rfl rfl _ fun s=>rfl
 .refine⟨[],z,d,by rw[if_pos (by simpa using C)],⟨p',p'⟩,fun h=>absurd h C,?_⟩;exact Ld A' C rfl rfl _ fun s=>rfl
end
def On:List L8:=[[97,109,112],[98,101,115,116],[99,117,114,118,101],[101,110,116,101,114],[101,115,116],[102,111,108,100],[108,97,115,116],[108,111,103],[112,97,105,114,115],[115,116,97,114]]
def Yg{l:List L8}(J:l.length<=1000)(s:L8):Bp l s=b0 (bo (s∈l)):=by
 unfold Bp Dj
 rw[Mu (step:=CP l s (l.length:Int)) (fun i=>s==l.getD i a') (fun j=>(j:Int)) l.length (fun i hi=>by
  simp only[CP,bz,hi,decide_true,if_true,Aa,AB,e6,(Z4 i)];cases(s==l.getD i a')<;>rfl) (by simp[CP])]
 cases C:(List.range l.length).find? (fun i=>s==l.getD i a')with
 | none=>
  rw[List.find?_eq_none]at C
  have:s ∉ l:=fun h=>by
   obtain⟨i,hi,rfl⟩:=List.getElem_of_mem h;exact C i (by simpa using hi) (by rw[Cl hi];simp)
  rw[decide_eq_false this];rfl
 | some j=>
  rw[List.find?_range_eq_some]at C;have I:j<l.length:=by simpa using C.2.1
  have:s∈l:=by
   have e:s=l.getD j a':=by simpa using C.1
   rw[e];exact Hu I a'
  rw[decide_eq_true this];simp
def AFi{w:L8}(h:w ∉ On):Bz w=b0 [45]:=by
 simp only[On,c8,cf,or_false,not_or]at h;obtain⟨h1,h2,h3,h4,U,R,J,I,C,j⟩:=h;unfold Bz;simp only[beq_eq_false_iff_ne.2 h1,beq_eq_false_iff_ne.2 h2,beq_eq_false_iff_ne.2 h3,beq_eq_false_iff_ne.2 h4,beq_eq_false_iff_ne.2 U,beq_eq_false_iff_ne.2 R,beq_eq_false_iff_ne.2 J,beq_eq_false_iff_ne.2 I,beq_eq_false_iff_ne.2 C,beq_eq_false_iff_ne.2 j,cm,if_false]
def AGh(d:Ad)(o:List L8)(line:L8):Prop := ∃j out ok,FF d line=b0 (j,out,ok)/\vv out/\(ok=b5->pt j) /\ ∀nu C I,∃s',doL ⟨d,o,nu,C,I⟩ line=b0 (ok,s')/\((ok=b5/\s'.d=j/\s'.out=o++out)\/(ok=ax/\s'.d=d/\s'.out=o))
def AJB{d:Ad}(hd:pt d):Bt d.Stars=b0 d.Stars/\BZ d.Estimates=b0 d.Estimates :=
 ⟨pO (by have:=hd.ls;omega),pP (by have:=hd.le;omega)⟩
def tf{d:Ad}{o:List L8}{line:L8}(hd:pt d){c:Cm}(j:CG line=b0 (c,ax))(h2:∀s,doL s line=b0 (ax,s)):AGh d o line:=by
 obtain⟨k1,k2⟩:=AJB hd;refine⟨⟨[],[],[]⟩,[],ax,?_,⟨p',p'⟩,fun h=>(by cases h),fun nu C I=>⟨_,h2 _,.inr ⟨rfl,rfl,rfl⟩⟩⟩;unfold FF;rw[k1,b9,k2,b9,j,b9];rfl
def NG{d:Ad}{o:List L8}{line:L8}(hd:pt d)(ho:o.length<=1000000)(hl:line.length<=1048576){kinds form w:L8}(hw:(BU 32 line).getD 0 a'=w)(hm:w∈On)(hk:Bm w=b0 kinds)(hf:Bz w=b0 form)(b1:form.length=kinds.length)(ab:(form==[45])=ax)
  (hb:∀args,args.length=kinds.length->(∀p∈args,p.length<=1048576)->∃numbers f s1,lO kinds form args numbers f d o s1/\Sr d o ⟨w::args,numbers,f,ax⟩ w s1):AGh d o line:=by
 obtain⟨l1,l2⟩:=Nw 32 line [];have hp:=NC 32 line [];have l1:1<=(BU 32 line).length:=l1;have l2:(BU 32 line).length<=line.length+1:=l2;have hp:∀p∈BU 32 line,p.length<=1048576:=fun p h=>by have:=hp p h;simp at this;omega
 have a1:=NY 32 hl;have a6:=Ue (c:=32) (s:=line) n'
 have aa:CG line=if(!true || !(((BU 32 line).length:Int)==(kinds.length:Int)+1))then b0 (⟨[],[],ax,ax⟩,ax)else(AZ kinds 0 ((BU 32 line).drop 1) (dx (BU 32 line).length 0) ax ax).bind fun y=>b0 (⟨BU 32 line,y.1,y.2.1,y.2.2⟩,b5):=by
  unfold CG;rw[a6,b9,decide_eq_true (show 0<(BU 32 line).length by omega),decide_eq_true (show(BU 32 line).length<=1099511627776 by omega),bX,AB,hw,hk,b9,show Ht=b0 On from rfl,b9,Yg x',b9,decide_eq_true hm]
 have ad:∀s,doL s line=if(form==[45] || !((form.length:Int)==((BU 32 line).length:Int)-1))then b0 (ax,s)else(Lk form ((BU 32 line).drop 1) { s with nums:=[],texts:=[],faint:=false }).bind fun q=>if !q.1 then(JD q.2 7).bind fun r=>b0 (b5,r.2)else(WK q.2 w).bind fun s=>b0 (b5,s):=fun s=>by
  have az:(BU 32 line).getD 0 []=w:=hw;unfold doL;rw[a1,b9,decide_eq_true (show 0<(BU 32 line).length by omega),NA n',bX,AB,az,hf,b9]
 by_cases hlen:(BU 32 line).length=kinds.length+1
 .obtain⟨x,args,j⟩:∃x args,BU 32 line=x::args:=by
   cases hq:BU 32 line with
   |nil=>rw[hq]at l1;simp at l1
   |cons x r=>exact⟨x,r,rfl⟩
  obtain rfl:x=w:=by rw[j]at hw;exact hw
  rw[j]at hlen hp;have a8:args.length=kinds.length:=by simpa using hlen
  obtain⟨numbers,f,s1,⟨wrong,e1,hr⟩,out,z,d',e2,ok,g1,J⟩:=hb args a8 fun p h=>hp p (bS _ h)
  obtain⟨k1,k2⟩:=AJB hd
  have U:CG line=b0 (⟨x::args,numbers,f,wrong⟩,b5):=by
   rw[aa,if_neg (by rw[j];simp;omega),j,dU,dw,bh,e1];rfl
  have I:∀s,doL s line=(Lk form args { s with nums:=[],texts:=[],faint:=false }).bind fun q=>if !q.1 then(JD q.2 7).bind fun r=>b0 (b5,r.2)else(WK q.2 x).bind fun s=>b0 (b5,s):=fun s=>by
   rw[ad,if_neg (by rw[ab,j];simp;omega),j,dU,dw]
  unfold AGh FF;rw[k1,b9,k2,b9,U,b9];simp only[b6,cm,if_false];rcases hr with⟨rfl,s',q1,q2,q3⟩|⟨rfl,q1⟩
  .obtain⟨n,r1,r2,r3⟩:=Zy (s:=s') (by rw[q3];omega) (z:=7) x';simp only[b6,cm,if_false];rw[if_pos x',r1,b9,As t',AB];refine⟨d,[yI n],b5,rfl,NF (by simp[yI];omega),fun _=>hd,fun nu R fa=>?_⟩;rw[I,q1,b9];simp only[dT,if_true];rw[r3];exact⟨_,rfl,.inl ⟨trivial,q2,by rw[q3]⟩⟩
  .simp only[dT,if_true];rw[show(Ad.mk d.Stars d.Estimates d.Log)=d from rfl,e2,b9]
   have C:∀nu R fa,doL ⟨d,o,nu,R,fa⟩ line=(WK s1 x).bind fun s=>b0 (b5,s):=fun nu R fa=>by
    rw[I,q1,b9];rfl
   obtain⟨s',p1,a7⟩:=J;rcases a7 with⟨rfl,p2,p3⟩|⟨hz,p2,n,p3,p4⟩
   .simp only[beq_self_eq_true,b6,cm,if_false];exact⟨d',out,b5,rfl,ok,fun _=>g1 rfl,fun nu R fa=>⟨s',by rw[C,p1];rfl,.inl ⟨rfl,p2,p3⟩⟩⟩
   .obtain⟨m,c1,_,c3⟩:=Tp z;obtain rfl:m=n:=Option.some.inj (c1.symm.trans p3);have ay:(!(z==0))=b5:=by simpa using hz
    simp only;rw[if_pos ay,c1,b9,As t',AB];exact⟨d,[yI m],b5,rfl,NF (by simp[yI];omega),fun _=>hd,fun nu R fa=>⟨s',by rw[C,p1];rfl,.inl ⟨rfl,p2,p4⟩⟩⟩
 .refine tf hd (c:=⟨[],[],ax,ax⟩) ?_ fun s=>?_
  .rw[aa,if_pos t']
  .rw[ad,if_pos (by rw[ab];simp;omega)]
def xX{d:Ad}{o:List L8}{line:L8}(hd:pt d)(ho:o.length<=1000000)(R:line.length<=1048576):AGh d o line:=by
 by_cases hm:(BU 32 line).getD 0 a'∈On
 .have U:=hm;simp only[On,c8,cf,or_false]at U;rcases U with h|h|h|h|h|h|h|h|h|h
  .refine NG hd ho R h (h▸hm) (kinds:=[119]) (form:=[120]) (by unfold Bm;rfl) (by unfold Bz;rfl) rfl rfl fun args I C=>?_
   match args,I with
   |[a],_=>exact⟨_,_,_,qe (C a p'),ABX hd ho a⟩
  .refine NG hd ho R h (h▸hm) (kinds:=[119,110,110,110]) (form:=[120,110,110,110]) (by unfold Bm;rfl) (by unfold Bz;rfl) rfl rfl fun args I C=>?_
   match args,I with
   | [a,b,c,e],_=>
    obtain⟨n,m,k,J⟩:=wu (d:=d) (o:=o) (C a p') (C b p') (C c p') (C e p');exact⟨_,_,_,J,yD hd ho a b c e n m k⟩
  .refine NG hd ho R h (h▸hm) (kinds:=[119]) (form:=[120]) (by unfold Bm;rfl) (by unfold Bz;rfl) rfl rfl fun args I C=>?_
   match args,I with
   |[a],_=>exact⟨_,_,_,qe (C a p'),rW hd ho a⟩
  .refine NG hd ho R h (h▸hm) (kinds:=[110,119,110]) (form:=[110,120,110]) (by unfold Bm;rfl) (by unfold Bz;rfl) rfl rfl fun args I C=>?_
   match args,I with
   | [a,b,c],_=>
    obtain⟨n,m,J⟩:=zl (d:=d) (o:=o) (C a p') (C b p') (C c p');exact⟨_,_,_,J,rV hd ho a b c n m⟩
  .refine NG hd ho R h (h▸hm) (kinds:=[110,119,119,102]) (form:=[110,120,120,101]) (by unfold Bm;rfl) (by unfold Bz;rfl) rfl rfl fun args I C=>?_
   match args,I with
   | [a,b,c,e],_=>
    obtain⟨n,m,f,J⟩:=zm (d:=d) (o:=o) (C a p') (C b p') (C c p') (C e p');exact⟨_,_,_,J,ABW hd ho a b c e n m f⟩
  .refine NG hd ho R h (h▸hm) (kinds:=[119,110]) (form:=[120,110]) (by unfold Bm;rfl) (by unfold Bz;rfl) rfl rfl fun args I C=>?_
   match args,I with
   | [a,b],_=>
    obtain⟨n,J⟩:=AEX (d:=d) (o:=o) (C a p') (C b p');exact⟨_,_,_,J,yC hd ho a b n⟩
  .refine NG hd ho R h (h▸hm) (kinds:=[119]) (form:=[120]) (by unfold Bm;rfl) (by unfold Bz;rfl) rfl rfl fun args I C=>?_
   match args,I with
   |[a],_=>exact⟨_,_,_,qe (C a p'),yB hd ho a⟩
  .refine NG hd ho R h (h▸hm) (kinds:=[]) (form:=[]) (by unfold Bm;rfl) (by unfold Bz;rfl) rfl rfl fun args I C=>?_
   match args,I with
   |[],_=>exact⟨_,_,_,AKd,ABV hd ho⟩
  .refine NG hd ho R h (h▸hm) (kinds:=[110,110]) (form:=[110,110]) (by unfold Bm;rfl) (by unfold Bz;rfl) rfl rfl fun args I C=>?_
   match args,I with
   | [a,b],_=>
    obtain⟨n,m,J⟩:=AEY (d:=d) (o:=o) (C a p') (C b p');exact⟨_,_,_,J,rU hd ho a b n m⟩
  .refine NG hd ho R h (h▸hm) (kinds:=[119,110,110,109,109]) (form:=[120,110,110,109,109]) (by unfold Bm;rfl) (by unfold Bz;rfl) rfl rfl fun args I C=>?_
   match args,I with
   | [a,b,c,e,g],_=>
    obtain⟨n,m,k,j,J⟩:=wv (d:=d) (o:=o) (C a p') (C b p') (C c p') (C e p') (C g p');exact⟨_,_,_,J,yA hd ho a b c e g n m k j⟩
 .obtain⟨l1,l2⟩:=Nw 32 line [];have l1:1<=(BU 32 line).length:=l1;have l2:(BU 32 line).length<=line.length+1:=l2
  obtain⟨kinds,hk⟩:∃k,Bm ((BU 32 line).getD 0 a')=b0 k:=by
   unfold Bm
   repeat' (first|exact⟨_,rfl⟩|split)
  refine tf hd (c:=⟨[],[],ax,ax⟩) ?_ fun s=>?_
  .unfold CG;rw[Ue (c:=32) (s:=line) n',b9,decide_eq_true (show 0<(BU 32 line).length by omega),decide_eq_true (show(BU 32 line).length<=1099511627776 by omega),bX,AB,hk,b9,show Ht=b0 On from rfl,b9,Yg x',b9,decide_eq_false hm];rfl
  .unfold doL;rw[NY 32 R,b9,decide_eq_true (show 0<(BU 32 line).length by omega),NA n',bX,AB,show(BU 32 line).getD 0 []=(BU 32 line).getD 0 a' from rfl,AFi hm,b9];rfl
end Go.Proofs.YtegmpdmpgmpiaaaGreatDoor
namespace Go.Proofs.YtegmpdmpgmpiaaaGreatDoor
open Go Go.RowKit
def xa{last I:Int}{line:L8}{e:AU}{m:Int}(h:Vn last I line=b0 (e,m)):line=NW (Cn last e) e/\m=Cn last e/\I<=e.Day:=by
 unfold Vn psP at h;split at h
 .rename_i p0 U p2 p3 hs;unfold XO at h;split at h
  .rename_i hb;cases h
   simp only[baT,dtE]at hb;obtain⟨⟨⟨⟨r0,r2⟩,R⟩,C⟩,J⟩:=hb;have j:Pf 32 (BU 32 line)=line:=by unfold BU;rw[NH];rfl
   have e0:=(OY r0).1;have e2:=(OY r2).1;refine⟨?_,rfl,C⟩;unfold NW IE;rw[J,←j,hs];show p0++32::(U++32::(p2++32::p3))=_;simp only[e0,e2,cS,db,b']
  .cases h
 .cases h
def aT:∀(es:List AU) (last:Int) (e:AU),QD last (es++[e])=Cn (QD last es) e
 |[],last,e=>rfl
 |x::r,last,e=>by rw[db,QD,aT r (Cn last x) e,QD]
structure yk(log:L8)(s:List AU×Nat×Int):Prop where
 at_:s.2.1<=log.length
 md:log.take s.2.1=Ft 0 s.1
 last:s.2.2=QD 0 s.1
 so:Qf 0 s.1
def yk.step{log:L8}{s:List AU×Nat×Int}(h:yk log s){q:Nat×AU×Int}(C:Np log s.2.1 s.2.2 (EO s.1)=b0 q):yk log (s.1++[q.2.1],q.1,q.2.2):=by
 obtain⟨i',e,m⟩:=q;unfold Np at C;split at C
 .rename_i line x I;rw[Option.map_eq_some_iff]at C;obtain⟨⟨J,m'⟩,hl,he⟩:=C;simp only[Prod.mk.injEq]at he;obtain⟨rfl,rfl,rfl⟩:=he;obtain⟨h1,rfl,h3⟩:=xa hl;have ha:=h.at_;have U:=h.last;rcases KM 10 (log.drop s.2.1)with⟨_,R⟩|⟨a,b,j,R,_⟩
  .rw[Ui R]at I;cases I
  .rw[j,RI R]at I;cases I
   have hlen:=congrArg List.length j;simp only[c',bR,bh]at hlen;refine⟨A',?_,?_,?_⟩
   .have e9:Ft 0 (s.1++[J])=Ft 0 s.1++(line++[10]):=by
     rw[UQ,←U];exact congrArg (fun z=>Ft 0 s.1++(z++[10])) h1.symm
    show log.take (s.2.1+line.length+1)=Ft 0 (s.1++[J]);rw[e9,←h.md,Nat.add_assoc,List.take_add,j];simp[List.take_append];exact List.take_of_length_le n'
   .show Cn s.2.2 J=_;rw[aT,U]
   .refine Qe s.1 0 J h.so ?_;split
    .rename_i h0;have:EO s.1=0:=by unfold EO;rw[if_pos h0]
     omega
    .exact h3
 .cases C
def nP{log:L8}:∀(f:Nat) {s:List AU×Nat×Int},yk log s->yk log (Rz log f s)
 |0,s,h=>h
 | f+1,s,h=>by
  unfold Rz;split
  .exact h
  .rename_i q j;exact nP f (h.step j)
def ADj{log:L8}(h:Gu log=0):Wc log:=by
 obtain⟨j,h2,C⟩:=WJ h;have hm:yk log (EI log):=nP _ ⟨Nat.zero_le _,rfl,rfl,trivial⟩;have hi:=QC log;have e:=hm.md;rw[h2,cd]at e;exact⟨_,e,hm.so,hi.ok,j⟩
end Go.Proofs.YtegmpdmpgmpiaaaGreatDoor
namespace Go.Proofs.YtegmpdmpgmpiaaaGreatDoor
open Go Go.RowKit Go.Proofs.YtegmpdmpgmpiaaaGreatDoor.l28
variable{d:Ad}
def ri(h:bZ d=b5):pt d:=by
 unfold bZ at h;simp only[baT,dtE]at h;obtain⟨⟨⟨⟨J,h2⟩,I,C⟩,j⟩,_⟩:=h;exact⟨J,h2,I,C,ADj j⟩
def yq{line:L8}(J:d.Stars.length<=1048576)(h2:d.Estimates.length<=1048576)(I:d.Log.length<=1048576)(R:line.length<=1048576):
  ∃W,VK d line=b0 W/\Vz d line=b0 W/\W.1.Stars.length<=60/\W.1.Estimates.length<=100/\W.2.1.length<=5000:=by
 unfold VK Vz;rw[AAs J h2 I,lL J h2 I,b9,b9];cases hb:bZ d
 .exact⟨_,rfl,rfl,p',p',p'⟩
 .obtain⟨d',out,ok,e1,ho,j,hs⟩:=xX (o:=[]) (ri hb) p' R;obtain⟨s',e2,U⟩:=hs [] [] ax;simp only[b6,cm,if_false,e1,e2,b9];rcases U with⟨rfl,rfl,C⟩|⟨rfl,rfl,C⟩
  .rw[b']at C;subst C;have j:=j rfl;exact⟨_,rfl,rfl,j.ls,j.le,ho.1⟩
  .exact⟨_,rfl,rfl,p',p',p'⟩
def wc{x:Ad}{n:Int}(h0:0<=n)(h1:n<=1048576)(w1:x.Stars.length<=maxLen)(w2:∀s∈x.Stars,s.Name.length<=maxLen)(U:x.Estimates.length<=maxLen)(R:∀s∈x.Estimates,s.Star.length<=maxLen/\s.Observer.length<=maxLen)(w5:x.Log.length<=maxLen):
  ∃z,Ji x n=b0 z/\(¬ z<0->z<=n/\x.Stars.length<=1048576/\x.Estimates.length<=1048576/\x.Log.length<=1048576):=by
 have hm:maxLen=9223372036854775807:=x'
 unfold Ji;obtain⟨a,ea,I⟩:=qO (a:=x.Stars) h0 h1 w1 w2;simp only[ea,b9]
 by_cases ca:a<0
 .exact⟨-1,by simp[ca],fun c=>absurd x' c⟩
 have I:=I ca;obtain⟨b,eb,C⟩:=Zg (a:=x.Estimates) (n:=a) n' n' U R;simp only[ca,decide_false,cm,if_false,eb,b9]
 by_cases j:b<0
 .exact⟨-1,by simp[j],fun c=>absurd x' c⟩
 have C:=C j;have e1:i64.wrap (b-(x.Log.length:Int))=b-x.Log.length:=Z1 n';simp only[j,decide_false,cm,if_false,e1]
 by_cases J:b-(x.Log.length:Int)<0
 .exact⟨-1,by simp[J],fun c=>absurd x' c⟩
 exact⟨b-x.Log.length,by simp[J],fun _=>⟨n',n',n',n'⟩⟩
def YY{a:Ad}(j:a.Stars.length<=1099511627776)(h2:a.Estimates.length<=1099511627776):Im a a=b0 b5:=by
 unfold Im;rw[rZ j,bV h2];simp
def oV{S:List Star}{E:List AA}{g:L8}(j:S.length<=1048576)(h2:E.length<=1048576):
  Gr ⟨Hn SC 5 S 1,Hn Ki 5 E (1+((5:Nat):Int)*S.length),g⟩ 1=b0 (1+((5:Nat):Int)*S.length+((5:Nat):Int)*E.length):=by
 unfold Gr;rw[kU (a:=S) n' n' n',b9,decide_eq_false n',if_neg cI,Xe (a:=E) n' n' n',b9,decide_eq_false n',if_neg cI]
structure AKF(D:Ad)(line:L8)(W:Ad×List L8×Int)(r1 r2 k1 k2 k3:Int)(T1 S':List Star)(T2 E':List AA)(O':List L8):Prop where
 sp:VK D line=b0 W
 im:Vz D line=b0 W
 tS:Gg D.Stars=b0 D.Stars
 tE:Dy D.Estimates=b0 D.Estimates
 eD:Im D D=b0 b5
 eW:Im W.1 W.1=b0 b5
 eO:Fu W.2.1 W.2.1=b0 b5
 m1:Dl D.Stars 1=b0 (r1,T1)
 m2:CL D.Estimates r1=b0 (r2,T2)
 r0:¬ r2<0
 n1:Dl W.1.Stars 1=b0 (k1,S')
 n2:CL W.1.Estimates k1=b0 (k2,E')
 n3:DX W.2.1 k2=b0 (k3,O')
 q2:Gr ⟨S',E',W.1.Log⟩ 1=b0 k2
 q3:Eh O' k2=b0 k3
 p2:¬ k2<0
 p3:¬ k3<0
def APR{D:Ad}{line:L8}(J:D.Stars.length<=1048576)(h2:D.Estimates.length<=1048576)(I:D.Log.length<=1048576)(C:line.length<=1048576):∃W r1 r2 k1 k2 j T1 S' T2 E' O',AKF D line W r1 r2 k1 k2 j T1 S' T2 E' O':=by
 obtain⟨W,U,R,l1,l2,l3⟩:=yq J h2 I C;refine⟨W,_,_,_,_,_,_,_,_,_,_,⟨U,R,qM n',Ze n',YY n' n',YY n' n',?_,Vj n' n' n',Pz n' n' n',n',Vj n' n' n',Pz n' n' n',aM n' n' n',oV n' n',aw n' n' n',n',n'⟩⟩;rw[kq n'];simp
end Go.Proofs.YtegmpdmpgmpiaaaGreatDoor
