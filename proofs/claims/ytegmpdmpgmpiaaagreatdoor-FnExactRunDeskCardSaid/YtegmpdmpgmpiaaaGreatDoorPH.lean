/- Lemmas and walks, several texts in one. No condition. -/
import Derived.Test.YtegmpdmpgmpiaaaGreatDoorPF
import Derived.Test.YtegmpdmpgmpiaaaGreatDoorPG
import Derived.Test.YtegmpdmpgmpiaaaGreatDoorPE
import Derived.Test.YtegmpdmpgmpiaaaGreatDoorPL
import Derived.Test.YtegmpdmpgmpiaaaGreatDoorP3
import Derived.Test.YtegmpdmpgmpiaaaGreatDoorRows
import Derived.WalkKit
open Bool renaming false->a7,true->ax,not_true->a',or_true->b6,and_self->bR,or_self->c6,not_eq_true'->cc,not_eq_false->cd,or_eq_true->cA,not_false->dz
open Decidable renaming decide->be
open Go.Lib renaming decDigits->b8,join->bI,itoa->bS,cut->c8
open Go.Proofs.YtegmpdmpgmpiaaaGreatDoor renaming obS->b5,bfT->ct,tnC->dX
open Inhabited renaming default->a8
open Int renaming ofNat_lt->bs
open List renaming getD_cons_zero->a6,getD_cons_succ->av,length_append->b4,length_cons->bb,take_succ_eq_append_getElem->bo,mem_cons_of_mem->bN,nil_append->bX,map_cons->b',length_singleton->c7,mem_cons->ca,not_mem_nil->cf,cons_ne_nil->cl,mem_append->cm,map_append->cn,mem_map->cI,singleton_append->cL,length_pos_iff->c',take_length->db,length_nil->dc,length_map->df,tail_cons->ds,replicate->dw,drop_one->dT
open Nat renaming add_sub_cancel->cb,zero_le->cS,le_refl->e6
open Option renaming some->au,isSome_some->b7,getD_some->b9
set_option linter.defProp false
set_option linter.unusedSimpArgs false
set_option linter.unusedVariables false
set_option maxRecDepth 100000
open Go.IntKind (i64 u64)
namespace Go.Proofs.YtegmpdmpgmpiaaaGreatDoor
open Go Go.RowKit
def Nk(c:UInt8):List UInt8->List UInt8×Bool
 | []=>([],a7)
 | x::r=>if x=c then (r,ax) else (x::r,a7)
theorem QQ(c:UInt8){s:List UInt8}(J:s.length<=9223372036854775807):CX s [c]=au (Nk c s):=by
 unfold CX CA Cs;cases s with
 | nil=>simp[Nk,AB]
 | cons x r=>
  have I:be ((([c]:List UInt8).length:Int)<=((x::r).length:Int))=true:=decide_eq_true (by simp;omega);have C:cut (x::r) 0 (([c]:List UInt8).length:Int)=[x]:=by simp[cut]
  have p:cut (x::r) (([c]:List UInt8).length:Int) ((x::r).length:Int)=r:=by
   unfold cut;simp only[dX,db];rfl
  rw[I,C,Fs (by omega) (by simp) (by simp;omega)];simp only[a',Bool.false_or,AB,b5,Bool.true_and]
  by_cases i:x=c
  ·have j:(([x]:List UInt8)==[c])=ax:=by rw[beq_iff_eq,i]
   rw[j];simp only[a',ct,if_false];rw[Fs (by simp) (by simp;omega) (by simp),AB,p];simp[Nk,i]
  ·have j:(([x]:List UInt8)==[c])=a7:=by rw[beq_eq_false_iff_ne];intro e;exact i (by simpa using e)
   rw[j];simp[Nk,i]
theorem uF:∀ k:Fin 10,i64.wrap (IntKind.u8.wrap (((dg k.val).toNat:Int)-48))=(k.val:Int):=by decide +kernel
theorem wV(s:List UInt8)(neg:Bool){w q:Nat}(C:w<=20)(I:q<=999):AE (CC s neg (d3 q) [100,10,1] (([100,10,1]:List Int).length:Int)) (((w*1000:Nat):Int),0)=au ((w*1000+q:Nat):Int):=by
 have v0:=uF ⟨q/100,by omega⟩;have v1:=uF ⟨q/10%10,by omega⟩;have v2:=uF ⟨q%10,by omega⟩;dsimp only at v0 v1 v2
 have p:CC s neg (d3 q) [100,10,1] (([100,10,1]:List Int).length:Int) (((w*1000:Nat):Int),0)=au (.inl (((w*1000+100*(q/100):Nat):Int),1)):=by
  have g:(d3 q).getD (0:Int).toNat 0=dg (q/100):=rfl;simp only[CC,g,v0];rw[if_pos (by decide),show AU 0 ([100,10,1]:List Int).length=ax from rfl,AB,show AU 0 (d3 q).length=ax from rfl,AB];rw[show (([100,10,1]:List Int).getD (0:Int).toNat a8)=100 from rfl,Z1 (n:=100*((q/100:Nat):Int)) (by omega),Z1 (by omega),show i64.wrap ((0:Int)+1)=1 from rfl];simp
 have j:CC s neg (d3 q) [100,10,1] (([100,10,1]:List Int).length:Int) (((w*1000+100*(q/100):Nat):Int),1)=au (.inl (((w*1000+100*(q/100)+10*(q/10%10):Nat):Int),2)):=by
  have g:(d3 q).getD (1:Int).toNat 0=dg (q/10%10):=rfl;simp only[CC,g,v1];rw[if_pos (by decide),show AU 1 ([100,10,1]:List Int).length=ax from rfl,AB,show AU 1 (d3 q).length=ax from rfl,AB];rw[show (([100,10,1]:List Int).getD (1:Int).toNat a8)=10 from rfl,Z1 (n:=10*((q/10%10:Nat):Int)) (by omega),Z1 (by omega),show i64.wrap ((1:Int)+1)=2 from rfl];simp
 have i:CC s neg (d3 q) [100,10,1] (([100,10,1]:List Int).length:Int) (((w*1000+100*(q/100)+10*(q/10%10):Nat):Int),2)=au (.inl (((w*1000+q:Nat):Int),3)):=by
  have g:(d3 q).getD (2:Int).toNat 0=dg (q%10):=rfl;simp only[CC,g,v2];rw[if_pos (by decide),show AU 2 ([100,10,1]:List Int).length=ax from rfl,AB,show AU 2 (d3 q).length=ax from rfl,AB];rw[show (([100,10,1]:List Int).getD (2:Int).toNat a8)=1 from rfl,Z1 (n:=1*((q%10:Nat):Int)) (by omega),Z1 (by omega),show i64.wrap ((2:Int)+1)=3 from rfl,show ((w*1000+100*(q/100)+10*(q/10%10):Nat):Int)+1*((q%10:Nat):Int)=((w*1000+q:Nat):Int) by omega]
 rw[Ak p,Ak j,Ak i];refine Ae ?_;simp only[CC];rw[if_neg (by decide)]
theorem Ta{m:Int}(T:-2000<=m)(R:m<=20000):CH (Oy m)=au (m,ax):=by
 have hl:=Ox T R;have aa:=EQ (u:=m.natAbs/1000) (by omega);obtain⟨c0,r0,I,C⟩:=RL (m.natAbs/1000);have P:=QN T R
 have p:Nk 45 (Oy m)=(b8 (m.natAbs/1000)++46::d3 (m.natAbs%1000),be (m<0)):=by
  unfold Oy
  by_cases i:m<0
  ·rw[if_pos i];simp[Nk,i]
  ·have U:=fc (c:=45) C (.inl (by decide));rw[if_neg i,I];simp[Nk,i,U]
 have j:(46:UInt8) ∉ b8 (m.natAbs/1000):=fun I=>fc (c:=46) (Od _ _ I) (.inl (by decide)) rfl
 unfold CH cM La;rw[QQ 45 (by omega),p];simp only[b5];rw[if_pos (by simp[d3];omega),QC j];simp only[b5];rw[if_pos (by omega),← Jq,Rk (by omega) (by omega)];simp only[b5,Es,b7,b9,b6,AB];have e1:(be ((0:Int)<=((m.natAbs/1000:Nat):Int))&&be (((m.natAbs/1000:Nat):Int)<=20))=ax:=by simp;omega
 have e2:(((d3 (m.natAbs%1000)).length:Int)==3)=true:=rfl;rw[e1,e2];simp only[a',c6,ct,if_false];have e3:i64.wrap (((m.natAbs/1000:Nat):Int)*1000)=((m.natAbs/1000*1000:Nat):Int):=by rw[Z1 (by omega)];omega
 rw[e3,wV (Oy m) _ (by omega) (by omega)];have e4:m.natAbs/1000*1000+m.natAbs%1000=m.natAbs:=by omega
 rw[e4];simp only[b5]
 by_cases i:m<0
 ·have J:i64.wrap (0-(m.natAbs:Int))=m:=by rw[Z1 (by omega)];omega
  simp only[i,decide_true,if_true,J,P,b5,beq_self_eq_true,a',ct,if_false]
 ·have J:(m.natAbs:Int)=m:=by omega
  simp only[i,decide_false,ct,if_false,J,P,b5,beq_self_eq_true,a']
theorem WN:∀ k:Fin 10,WO (dg k.val)=ax:=by decide +kernel
theorem ls0(s:List UInt8):Kd s=Cn s:=id rfl
theorem tD(s:List UInt8)(j:List (List UInt8))(neg:Bool)(T:1<j.length){w q:Nat}(hg:j.getD 1 a8=d3 q)(hw:w<=20)(hq:q<=999):AE (Cn s j neg) ((w:Int),0)=au (.inl ((w*1000+q:Nat):Int)):=by
 have v0:=uF ⟨q/100,by omega⟩;have v1:=uF ⟨q/10%10,by omega⟩;have v2:=uF ⟨q%10,by omega⟩;have t0:=WN ⟨q/100,by omega⟩;have P:=WN ⟨q/10%10,by omega⟩;have J:=WN ⟨q%10,by omega⟩;dsimp only at v0 v1 v2 t0 P J;have p:AU 1 j.length=true:=Z2 (by omega)
 have one:∀ (n:Nat) (i i':Int) (d:UInt8) (k:Nat),i+1=i'->n<=100000->k<10->(be (i<3))=ax->AU i (d3 q).length=ax->(d3 q).getD i.toNat 0=d->WO d=ax->i64.wrap (IntKind.u8.wrap ((d.toNat:Int)-48))=(k:Int)->0<=i->Cn s j neg ((n:Int),i)=au (.inl (((10*n+k:Nat):Int),i')):=fun n i i' d k C hn hk R hi hd I U h0=>by
  have ab:=of_decide_eq_true R;simp only[Cn,R,if_true,p,AB,hg,hi,hd,OG,I,b5,a',ct,if_false,U];rw[Z1 (n:=10*(n:Int)) (by omega),Z1 (n:=10*(n:Int)+(k:Int)) (by omega),Z1 (by omega),C];simp
 rw[Ak (one w 0 1 (dg (q/100)) (q/100) rfl (by omega) (by omega) rfl rfl rfl t0 v0 (by omega)),Ak (one (10*w+q/100) 1 2 (dg (q/10%10)) (q/10%10) rfl (by omega) (by omega) rfl rfl rfl P v1 (by omega)),Ak (one (10*(10*w+q/100)+q/10%10) 2 3 (dg (q%10)) (q%10) rfl (by omega) (by omega) rfl rfl rfl J v2 (by omega))];refine Ae ?_;have:10*(10*(10*w+q/100)+q/10%10)+q%10=w*1000+q:=by omega
 rw[this];simp only[Cn];rw[if_neg (by decide)]
theorem YP{m:Int}(h0:-2000<=m)(h1:m<=20000):CZ (Oy m)=au (m,ax):=by
 have hl:=Ox h0 h1;have a1:=EQ (u:=m.natAbs/1000) (by omega);obtain⟨c0,r0,p,a2⟩:=RL (m.natAbs/1000);have hT:=Pp h0 h1;have hM:Bo m=au ax:=by unfold Bo;rw[De];simp[h0,h1]
 have aa:(46:UInt8) ∉ b8 (m.natAbs/1000):=fun p=>fc (c:=46) (Od _ _ p) (.inl (by decide)) rfl
 have C:(46:UInt8) ∉ d3 (m.natAbs%1000):=fun p=>by
  have R:=WN ⟨m.natAbs%1000/100,by omega⟩;have k1:=WN ⟨m.natAbs%1000/10%10,by omega⟩;have k2:=WN ⟨m.natAbs%1000%10,by omega⟩;simp only[d3,ca,cf,or_false] at p;dsimp only at R k1 k2;rcases p with e|e|e
  ·rw[← e] at R;exact absurd R (by decide)
  ·rw[← e] at k1;exact absurd k1 (by decide)
  ·rw[← e] at k2;exact absurd k2 (by decide)
 have T:Dc (Oy m) 46=au [(if m<0 then ([45]:List UInt8) else [])++b8 (m.natAbs/1000),d3 (m.natAbs%1000)]:=by
  rw[Kz 46 (by omega)];unfold Oy Am
  rw[List.append_assoc _ [46],cL,Ip (by
   intro ab;rcases cm.1 ab with q|q
   ·split at q<;>simp at q
   ·exact aa q),MO C]
  simp
 have j:Bi (b8 (m.natAbs/1000))=au (((m.natAbs/1000:Nat):Int),ax):=by
  rw[KH (by omega),← Jq,Rk (by omega) (by omega)]
 have e1:(be ((0:Int)<=((m.natAbs/1000:Nat):Int))&&be (((m.natAbs/1000:Nat):Int)<=20))=ax:=by simp;omega
 have e4:m.natAbs/1000*1000+m.natAbs%1000=m.natAbs:=by omega
 have i:=fun (P:List (List UInt8)) (neg:Bool) (h:1<P.length) (hg:P.getD 1 a8=d3 (m.natAbs%1000))=>tD (Oy m) P neg h (w:=m.natAbs/1000) hg (by omega) (by omega)
 rw[e4] at i;unfold CZ;rw[T];simp only[b5,ls0];rw[show AU 1 ([(if m<0 then ([45]:List UInt8) else [])++b8 (m.natAbs/1000),d3 (m.natAbs%1000)]:List (List UInt8)).length=ax from rfl,b6,AB,if_neg (by simp[d3]),show AU 0 ([(if m<0 then ([45]:List UInt8) else [])++b8 (m.natAbs/1000),d3 (m.natAbs%1000)]:List (List UInt8)).length=ax from rfl,AB]
 by_cases hn:m<0
 ·simp only[if_pos hn,a6];have hz:([45]:List UInt8)++b8 (m.natAbs/1000)=45::b8 (m.natAbs/1000):=rfl;rw[hz];have I:be ((0:Int)<((45::b8 (m.natAbs/1000):List UInt8).length:Int))=true:=decide_eq_true (by simp only[bb];omega);have J:cut (45::b8 (m.natAbs/1000):List UInt8) 1 ((45::b8 (m.natAbs/1000):List UInt8).length:Int)=b8 (m.natAbs/1000):=by unfold cut;simp
  have e5:i64.wrap (0-(m.natAbs:Int))=m:=by rw[Z1 (by omega)];omega
  rw[Di (n:=(45::b8 (m.natAbs/1000):List UInt8).length) (by omega) (by simp only[bb];omega),b6,AB,if_pos (by rw[I];rfl),Fs (by omega) (by simp only[bb];omega) (by omega),AB,J,j];simp only[b5,De,b7,b9,b6,AB,e1,a',c6,ct,if_false];rw[i _ _ (by simp) rfl];simp only[b5,e5,hM,hT,b7,b9,b6,AB,beq_self_eq_true,a',c6,ct,if_false]
 ·simp only[if_neg hn,a6,bX];have e5:(m.natAbs:Int)=m:=by omega
  have hx:((((b8 (m.natAbs/1000)).getD 0 0).toNat:Int)==45)=a7:=by
   rw[p,a6,beq_eq_false_iff_ne];omega
  have U:(!(be ((0:Int)<((b8 (m.natAbs/1000)).length:Int)))||AU 0 (b8 (m.natAbs/1000)).length)=ax:=by
   rw[Di (by omega) (by rw[p];simp),b6]
  rw[U,AB,hx,Bool.and_false,if_neg (by decide),j];simp only[b5,De,b7,b9,b6,AB,e1,a',c6,ct,if_false];rw[i _ _ (by simp) rfl];simp only[b5,e5,hM,hT,b7,b9,b6,AB,beq_self_eq_true,a',c6,ct,if_false]
def rV(s:List UInt8)(y:Int×Bool):Prop:=y=(0,a7)∨(y.2=ax∧-2000<=y.1∧y.1<=20000∧Oy y.1=s)
theorem mH(m:Int)(s:List UInt8)(hs:s≠[]):∃ t,DT m=au t∧(((t==s))=ax->-2000<=m∧m<=20000∧Oy m=s):=by
 by_cases h:-2000<=m∧m<=20000
 ·exact⟨_,QN h.1 h.2,fun e=>⟨h.1,h.2,by simpa using e⟩⟩
 ·refine⟨[],?_,fun e=>absurd (by simpa using e:[]=s).symm hs⟩;unfold DT BT;rw[Es,b5];have e:(be (-2000<=m)&&be (m<=20000))=a7:=by simp;omega
  rw[e];rfl
theorem pn(m:Int)(s:List UInt8):∃ r,((Bo m).bind fun y=>ck (!(!(!y))||(CY m).isSome) <| if ((!y)||(!(((CY m).getD a8)==s))) then au ((0:Int),a7) else au (m,ax))=au r∧rV s r:=by
 unfold Bo;rw[De];simp only[b5]
 by_cases h:-2000<=m∧m<=20000
 ·rw[Pp h.1 h.2,b7,b6,AB,b9];split
  ·exact⟨_,rfl,.inl rfl⟩
  ·rename_i i;simp only[cA,not_or,cc,cd,beq_iff_eq] at i;exact⟨_,rfl,.inr ⟨rfl,h.1,h.2,i.2⟩⟩
 ·have e:(be (-2000<=m)&&be (m<=20000))=a7:=by simp;omega
  rw[e];exact⟨_,rfl,.inl rfl⟩
theorem Ly(c:UInt8):∀ (s acc:List UInt8),∀ p∈Cq c acc s,p.length<=acc.length+s.length
 | [],acc,p,h=>by
  have:p=acc:=by simpa[Cq] using h
  rw[this];simp
 | x::r,acc,p,h=>by
  rw[Cq] at h;split at h
  ·rcases ca.1 h with rfl|h
   ·simp
   ·have:=Ly c r [] p h;simp at this ⊢;omega
  ·have:=Ly c r (acc++[x]) p h;simp at this ⊢;omega
theorem cE{s:List UInt8}(hl:s.length<=1048576):∃ y,CZ s=au y∧rV s y:=by
 unfold CZ;rw[Kz 46 hl,b5];have I:=Ly 46 s [];have I:∀ p∈Am 46 s,p.length<=1048576:=fun p h=>by have:=I p h;simp at this;omega
 generalize Am 46 s=ws at I
 by_cases h2:ws.length=2
 ·have U:AU 0 ws.length=true:=Z2 (by omega);have k1:AU 1 ws.length=true:=Z2 (by omega);have ab:=I _ (Id (show 0<ws.length by omega) a8);rw[k1,b6,AB];split
  ·exact⟨_,rfl,.inl rfl⟩
  ·rename_i hc
   have h3:(ws.getD 1 a8).length=3:=by
    simp only[cA,not_or,cc,cd,beq_iff_eq] at hc;omega
   have loop:∀ (neg:Bool) (J:Int),∃ r,AE (Cn s ws neg) (J,0)=au r∧(∀ z,r = .inr z->z=(0,a7)):=fun neg J=>Dq (step:=Cn s ws neg) (fun s=>∃ i:Nat,s.2=(i:Int)∧i<=3) (fun r=>∀ z,r = .inr z->z=(0,a7)) (fun s=>3-s.2.toNat) (by
    rintro⟨n,z⟩ ⟨i,hi,aa⟩;have hi:z=(i:Int):=hi;subst hi
    by_cases c:i<3
    ·have R:(i:Int)<3:=by omega
     simp only[Cn,R,decide_true,if_true,k1,Af,h3,c,AB,OG,b5,(Z4 i)];split
     ·exact .inr ⟨_,rfl,fun z j=>by cases j;rfl⟩
     ·exact .inl ⟨_,rfl,⟨i+1,rfl,c⟩,by simp only[dX];omega⟩
    ·right;have R:¬ (i:Int)<3:=by omega
     simp only[Cn,R,decide_false,ct,if_false];exact⟨_,rfl,fun z j=>by cases j⟩) (s:=(J,0)) ⟨0,rfl,by omega⟩
   rw[U,AB];simp only[ls0,De,b7,b9,b6,AB];obtain⟨N,T⟩:∃ N,N=(be ((0:Int)<((ws.getD 0 a8).length:Int))&&((((ws.getD 0 a8).getD 0 0).toNat:Int)==45)):=⟨_,rfl⟩;rw[← T]
   have hk:(!(be ((0:Int)<((ws.getD 0 a8).length:Int)))||AU 0 (ws.getD 0 a8).length)=ax:=by
    by_cases c:0<(ws.getD 0 a8).length
    ·rw[Z2 (by omega),b6]
    ·rw[decide_eq_false (by omega)];rfl
   rw[hk,AB];split
   ·rename_i C
    have h0:(0:Int)<((ws.getD 0 a8).length:Int):=by
     rw[T] at C;exact of_decide_eq_true (Bool.and_eq_true_iff.1 C).1
    rw[Z3 (by omega),AB,KH (by simp only[cut,List.length_drop,List.length_take];omega)];simp only[b5];split
    ·exact⟨_,rfl,.inl rfl⟩
    ·obtain⟨r,P,j⟩:=loop N (CK (cut (ws.getD 0 a8) 1 ((ws.getD 0 a8).length:Int))).1;rw[P,b5];cases r with
     | inl a=>exact pn _ s
     | inr b=>rw[j b rfl];exact⟨_,rfl,.inl rfl⟩
   ·rw[KH (by omega)];simp only[b5];split
    ·exact⟨_,rfl,.inl rfl⟩
    ·obtain⟨r,P,j⟩:=loop N (CK (ws.getD 0 a8)).1;rw[P,b5];cases r with
     | inl a=>exact pn _ s
     | inr b=>rw[j b rfl];exact⟨_,rfl,.inl rfl⟩
 ·have e2:((ws.length:Int)==2)=a7:=by rw[beq_eq_false_iff_ne];omega
  rw[e2];exact⟨_,rfl,.inl rfl⟩
theorem cK{s:List UInt8}(hl:s.length<=1048576):∃ y,CH s=au y∧rV s y:=by
 unfold CH
 have p:(Nk 45 s).1.length<=s.length:=by
  cases s with
  | nil=>simp[Nk]
  | cons x r=>by_cases hx:x=45<;>simp[Nk,hx]
 rw[QQ 45 (by omega),b5];obtain⟨t,b,C⟩:∃ t b,Nk 45 s=(t,b):=⟨_,_,rfl⟩;rw[C] at p ⊢;have P:t.length<=s.length:=p
 have U:(c8 t [46]).1.length<=1048576:=by
  by_cases h:(46:UInt8)∈t
  ·rcases JR 46 t with⟨_,q⟩|⟨x,y,rfl,q,_⟩
   ·exact absurd h q
   ·rw[QC q];simp at P;simp only;omega
  ·rw[TS h];simp only;omega
 simp only;rw[Uk (by omega),b5,PJ U,b5];simp only[Es,b7,b6,AB,b9]
 have j:(c8 t [46]).2.1.length=3->s≠[]:=fun h e=>by
  subst e;have:t=[]:=List.length_eq_zero_iff.1 (by simpa using P);rw[this,TS (by simp)] at h;simp at h
 generalize hr:(c8 t [46]).2.1=rest at j;split
 ·exact⟨_,rfl,.inl rfl⟩
 ·rename_i h
  have T:rest.length=3:=by
   simp only[cA,not_or,cc,cd,beq_iff_eq] at h;omega
  have R:([100,10,1]:List Int).length=3:=rfl;generalize ([100,10,1]:List Int)=L at R
  obtain⟨y,hy,_⟩:=Dq (step:=CC s b rest L (L.length:Int)) (fun s=>∃ i:Nat,s.2=(i:Int)∧i<=3) (fun _=>True) (fun s=>3-s.2.toNat) (by
   rintro⟨n,z⟩ ⟨i,hi,ad⟩;have hi:z=(i:Int):=hi;subst hi
   by_cases c:i<3
   ·left;have J:(i:Int)<((3:Nat):Int):=by omega
    simp only[CC,J,decide_true,if_true,Af,T,R,c,AB,(Z4 i)];refine⟨_,rfl,⟨i+1,rfl,c⟩,?_⟩;simp only[dX];omega
   ·right;have J:¬ (i:Int)<(L.length:Int):=by omega
    simp only[CC,J,decide_false,ct,if_false];exact⟨_,rfl,trivial⟩) (s:=(i64.wrap ((CK (c8 t [46]).1).1*1000),0)) ⟨0,rfl,by omega⟩
  rw[hy,b5]
  have I:∀ m,∃ r,((DT m).bind fun v=>if (!(v==s)) then au ((0:Int),a7) else au (m,ax))=au r∧rV s r:=fun m=>by
   obtain⟨v,hv,hm⟩:=mH m s (j T);rw[hv,b5];split
   ·exact⟨_,rfl,.inl rfl⟩
   ·rename_i hc;obtain⟨a,b,c⟩:=hm (by simpa using hc);exact⟨_,rfl,.inr ⟨rfl,a,b,c⟩⟩
  split<;>exact I _
theorem gq{s:List UInt8}(j:s.length<=1048576):∃ y,CH s=au y∧CZ s=au y:=by
 obtain⟨y,i,C⟩:=cK j;obtain⟨z,p,h2⟩:=cE j;rcases C with rfl|⟨_,a,b,c⟩
 ·rcases h2 with rfl|⟨_,a,b,c⟩
  ·exact⟨_,i,p⟩
  ·rw[← c,Ta a b] at i;exact absurd (congrArg (fun o=>(o.map Prod.snd)) i) (by simp)
 ·rw[← c,YP a b] at p;rw[← c,Ta a b] at i;exact⟨_,by rw[← c];exact Ta a b,by rw[← c];exact YP a b⟩
def XJ(log:List UInt8):Prop:=∃ es,log=Gm 0 es∧Re 0 es∧(∀ x,x∈es->JY x=ax)∧log.length<=4000
theorem XJ.code{log:List UInt8}(h:XJ log):Jh log=0:=by
 obtain⟨es,rfl,j,h2,I⟩:=h;obtain⟨C,i,p⟩:=dh j h2;unfold Jh;rw[if_neg (by omega),if_pos i]
theorem XJ.len{log:List UInt8}(h:XJ log):log.length<=4000:=by obtain⟨_,_,_,_,h⟩:=h;exact h
theorem Tt:∀ (es:List AW) (d:Int) (e:AW),Re d es->(if es.length=0 then d else EK es)<=e.Day->Re d (es++[e])
 | [],d,e,_,h=>⟨by simpa using h,trivial⟩
 | x::r,d,e,hs,h=>by
  refine⟨hs.1,Tt r x.Day e hs.2 ?_⟩;have h:EK (x::r)<=e.Day:=by simpa using h
  cases r with
  | nil=>simpa[EK] using h
  | cons y q=>
   have i:EK (x::y::q)=EK (y::q):=by
    unfold EK;simp[gdE]
   rw[i] at h;simpa using h
theorem cY{log:List UInt8}(h:XJ log)(e:AW):∃ out c,FI log e=au (out,c)∧(c=0->XJ out∧Jf e.What=ax):=by
 have j:=h.code;obtain⟨es,rfl,hs,ho,C⟩:=h;obtain⟨U,p2,T⟩:=dh hs ho;have hi:=Qv (Gm 0 es);obtain⟨ac,last,e2,h1,h2⟩:=Qh (log:=Gm 0 es) (by omega);obtain⟨rfl,rfl⟩:=h1 j;obtain⟨b1,b2,b3⟩:=Xt j;unfold FI;rw[e2];simp only[b5,j,beq_self_eq_true,a',ct,if_false,Of];cases i:JY e
 ·exact⟨_,_,rfl,fun c=>absurd c (by decide)⟩
 ·have p:=Rm i;obtain⟨s1,R,P,J⟩:=Ks i hi.lo hi.hi;have lw:=Lo i;have ls:=FO (n:=DE (Dw (Gm 0 es)).2.2 e) ⟨by omega,by omega⟩
  have k:(!(be (0<((Dw (Gm 0 es)).1.length:Int)))||AU (i64.wrap (((Dw (Gm 0 es)).1.length:Int)-1)) (Dw (Gm 0 es)).1.length)=ax:=by
   by_cases c:(Dw (Gm 0 es)).1.length=0
   ·simp[c]
   ·rw[Z1 (by omega),Z2 (by omega),b6]
  simp only[a',ct,if_false,k,AB,wi (es:=(Dw (Gm 0 es)).1) (d:=e.Day) p.1 (by omega)];cases hd:be (e.Day<EK (Dw (Gm 0 es)).1)
  ·simp only[ct,if_false,R,b5,di i P J];rw[Au (by simp;omega),AB];split
   ·exact⟨_,_,rfl,fun c=>absurd c (by decide)⟩
   ·rename_i I;refine⟨_,_,rfl,fun _=>⟨⟨es++[e],?_,?_,fun x hx=>?_,?_⟩,Vt i⟩⟩
    ·rw[Yq,T]
    ·refine Tt es 0 e hs ?_;have hd:=of_decide_eq_false hd;rw[U] at hd;split
     ·exact p.1
     ·omega
    ·rcases cm.1 hx with c|c
     ·exact ho x c
     ·obtain rfl:x=e:=by simpa using c
      exact i
    ·have I:¬ (4000:Int)<((Gm 0 es++(((Hx e++[32])++bS (DE (Dw (Gm 0 es)).2.2 e))++[10])).length:Int):=by simpa using I
     omega
  ·exact⟨_,_,rfl,fun c=>absurd c (by decide)⟩
def mG(out:List (List UInt8)):Prop:=out.length<=5000∧∀ s∈out,s.length<=5000
theorem MB{s:List UInt8}(h:s.length<=5000):mG [s]:=⟨by simp,by simpa using h⟩
theorem kZ(p:List UInt8){m:Nat}:∀ {l:List (List UInt8)},(∀ s∈l,s.length<=m)->(bI l p).length<=l.length*(m+p.length)
 | [],_=>by simp[bI]
 | [x],h=>by
  have:=h x (by simp);have e:bI [x] p=x:=by simp[bI]
  rw[e];simp;omega
 | x::y::r,h=>by
  have i:=h x (by simp);have h2:=kZ p (m:=m) (l:=y::r) (fun s hs=>h s (bN _ hs));have e:bI (x::y::r) p=x++p++bI (y::r) p:=by simp[bI]
  rw[e,b4,b4,bb,Nat.add_mul,Nat.one_mul];omega
theorem Sj(z:Int):∃ s,DM z=au s∧FD z=au s∧s.length<=20:=by
 unfold DM FD;generalize j:([[111,107],[105,110,118,97,108,105,100],[114,97,110,103,101],[110,111,116,45,102,111,117,110,100],[101,120,105,115,116,115],[102,117,108,108],[115,116,97,116,101],[115,121,110,116,97,120],[102,111,114,109,97,116],[99,108,97,115,104],[99,108,111,117,100,121]]:List (List UInt8))=L;have C:∀ s∈L,s.length<=20:=by rw[← j];decide
 have i:L.length=11:=by rw[← j];rfl
 have p:i64.wrap ((L.length:Int)-1)=10:=by rw[i];exact Z1 (by omega)
 rw[De,b5,p,i]
 by_cases h:0<=z∧z<=10
 ·rw[if_neg (by simp;omega),if_neg (by simp;omega),Z2 (by omega),AB];exact⟨_,rfl,rfl,C _ (Id (by omega) a8)⟩
 ·rw[if_pos (by simp;omega),if_pos (by simp;omega)];exact⟨_,rfl,rfl,by simp⟩
theorem PW{n:Int}(h:SD n):∃ s,BJ n=au s∧BB n=au s∧s.length<=21:=⟨_,Jy h,JQ h,FO h⟩
theorem Rb{d:Bp}(P:d.Stars.length<=1000000)(h2:d.Estimates.length<=1000000):∃ s,EY d=au s∧ER d=au s∧s.length<=100:=by
 unfold EY FQ EB ER;obtain⟨a,C,j,J⟩:=PW (n:=(d.Stars.length:Int)) ⟨by omega,by omega⟩;obtain⟨b,p,i,I⟩:=PW (n:=(d.Estimates.length:Int)) ⟨by omega,by omega⟩;simp only[b5,C,j,p,i];rw[Au (by simp;omega),AB,Au (by simp;omega),AB,Au (by simp;omega),AB];exact⟨_,rfl,rfl,by simp;omega⟩
theorem vA:Il=JI:=id rfl
theorem dj{l:List AA}(p:l.length<=1000000)(s:List UInt8)(t:AA):∀ k:Nat,k<=l.length->AE (GS l s t) ((k:Int)-1)=au (match (l.take k).reverse.find? (fun e=>e.Star==s) with|some e=>.inr (e,0)|none=>.inl ())
 | 0,_=>by
  rw[Ae (r:=.inl ()) (by simp[GS])];rfl
 | k+1,h=>by
  have i:k<l.length:=by omega
  have C:(((k+1:Nat):Int)-1)=(k:Int):=by omega
  rw[C,bo i,List.reverse_append,List.reverse_singleton,cL,List.find?_cons];have j:(0:Int)<=(k:Int):=by omega
  cases hs:(l[k].Star==s) with
  | true=>
   rw[Ae (r:=.inr (l[k],0)) (by simp only[GS,j,decide_true,if_true,Af,i,AB,dX,Cm i,hs])]
  | false=>
   rw[Ak (s':=(k:Int)-1) (by
    simp only[GS,j,decide_true,if_true,Af,i,AB,dX,Cm i,hs,ct,if_false];rw[Z1 (by omega)]),dj p s t k (by omega)]
theorem wD{e:AA}(h:Mf e=ax):SD e.Time∧e.Star.length<=100∧e.Observer.length<=100:=by
 unfold Mf at h;simp only[baT,dtE] at h;obtain⟨⟨⟨⟨p,h2⟩,j⟩,i⟩,_⟩:=h;have a:=(Vx j).2;have b:=(Vx i).2;exact⟨⟨by omega,by omega⟩,by omega,by omega⟩
theorem mL{l:List AA}(I:l.length<=1000000)(w:List UInt8):∃ e z,Hq l w=au (e,z)∧GH l w=au (e,z)∧(z=0->Mf e=ax)∧SD e.Time∧e.Star.length<=100∧e.Observer.length<=100:=by
 unfold Hq GH;rw[Hu (by omega),b5,UW (by omega),b5,Ib,b5,IU,b5];have i:SD (0:Int)∧([]:List UInt8).length<=100∧([]:List UInt8).length<=100:=⟨by unfold SD;decide,by simp,by simp⟩;split
 ·exact⟨_,_,rfl,rfl,fun h=>absurd h (by decide),i⟩
 ·rename_i j
  have P:FY l=ax:=by
   cases J:FY l with
   | true=>rfl
   | false=>rw[J] at j;simp at j
  split
  ·exact⟨_,_,rfl,rfl,fun h=>absurd h (by decide),i⟩
  ·have C:i64.wrap ((l.length:Int)-1)=(l.length:Int)-1:=Z1 (by omega);rw[C,dj I w _ l.length (e6 _),db,b5];cases R:l.reverse.find? (fun e=>e.Star==w) with
   | none=>exact⟨_,_,rfl,rfl,fun h=>absurd h (by decide),i⟩
   | some e=>
    have hm:e∈l:=by
     have:=List.mem_of_find?_eq_some R;simpa using this
    have p:=Rt P hm;exact⟨_,_,rfl,rfl,fun _=>p,wD p⟩
theorem wd{e:AA}(R:SD e.Time)(h2:e.Star.length<=100)(h3:e.Observer.length<=100):∃ s,Eu e=au s∧s.length<=1000∧(Mf e=ax->FB [e]=au (s++[10])):=by
 obtain⟨a,U,l1,C⟩:∃ a,DT e.Mag=au a∧a.length<=30∧(Mf e=ax->CY e.Mag=au a):=by
  by_cases h:-2000<=e.Mag∧e.Mag<=20000
  ·exact⟨_,QN h.1 h.2,(Ox h.1 h.2).2,fun _=>Pp h.1 h.2⟩
  ·refine⟨[],?_,by simp,fun ho=>absurd (Yl ho) (by omega)⟩;unfold DT BT;rw[Es,b5];have e:(be (-2000<=e.Mag)&&be (e.Mag<=20000))=a7:=by simp;omega
   rw[e];rfl
 obtain⟨b,J,T,l2⟩:=PW R
 have key:∀ w:List UInt8,w.length<=100->Wx [b,e.Star,e.Observer,w] [32]=au (b++[32]++e.Star++[32]++e.Observer++[32]++w):=fun w j=>by
  unfold Wx fl;have e0:bI [b,e.Star,e.Observer,w] [32]=b++[32]++e.Star++[32]++e.Observer++[32]++w:=by simp[bI]
  rw[e0,if_pos (by simp;omega)]
 have p:Mf e=ax->∀ (w:List UInt8),w=(if e.Fainter=ax then [60]++a else a)->FB [e]=au (b++[32]++e.Star++[32]++e.Observer++[32]++w++[10]):=fun ho w j=>by
  unfold FB;have C:=C ho
  rw[Ak (s':=(b++[32]++e.Star++[32]++e.Observer++[32]++w++[10],1)) (by
   have P:([e]:List AA).getD (0:Int).toNat a8=e:=rfl;simp only[JG,P,T,C,b5];rw[if_pos (by simp),show AU 0 ([e]:List AA).length=ax from rfl,AB,Au (by simp;omega),AB,Au (by simp;omega),AB,Au (by simp;omega),AB,Au (by simp;omega),AB,Au (by simp;omega),AB,Ba (by simp;omega),AB];have I:i64.wrap (0+1)=1:=rfl;rw[I]
   by_cases i:e.Fainter=ax
   ·rw[if_pos i] at j ⊢;rw[Ba (by simp;omega),AB,Au (by simp;omega),AB,Ba (by simp;omega),AB,j];simp
   ·rw[if_neg i] at j ⊢;rw[Au (by simp;omega),AB,Ba (by simp;omega),AB,j];simp),Ae (r:=b++[32]++e.Star++[32]++e.Observer++[32]++w++[10]) (by simp[JG])]
  rfl
 unfold Eu;rw[U,b5];split
 ·rename_i i;rw[Au (by simp;omega),AB,J,b5,key _ (by simp;omega)];exact⟨_,rfl,by simp;omega,fun ho=>p ho _ (by rw[if_pos i])⟩
 ·rename_i i;rw[J,b5,key _ (by omega)];exact⟨_,rfl,by simp;omega,fun ho=>p ho _ (by rw[if_neg i])⟩
theorem vz{l:List AA}(T:FY l=ax)(hl:l.length<=100)(C y:Int):Ck l C y=Cl l C y:=by
 unfold Ck Cl BS;rw[Hu (by omega),b5,UW (by omega),b5];have p:∀ i,i<l.length->Mf (l.getD i a8)=true:=fun i hi=>Rt T (Id hi a8)
 have hw:=Qi (step:=Cb l C y) (step':=AZ (l.length:Int) l C y (l.length:Int)) (fun s=>∃ i:Nat,s.2=(i:Int)∧i<=l.length) (by
  rintro⟨out,z⟩ ⟨i,hi,I⟩;have hi:z=(i:Int):=hi;subst hi
  by_cases c:i<l.length
  ·simp only[Cb,AZ,bs,c,decide_true,if_true,(Z4 i)]
   rw[Qi (step:=Ca l C y (i:Int)) (step':=Ad (l.length:Int) l C y (i:Int) (l.length:Int) (i:Int)) (fun s=>∃ k:Nat,s.2=(k:Int)∧i<k∧k<=l.length) (by
    rintro⟨out,z⟩ ⟨k,J,P,I⟩;have J:z=(k:Int):=J;subst J
    by_cases j:k<l.length
    ·have ti:=Yl (p i c);have tk:=Yl (p k j)
     have ab:(l.getD i a8).Time<=(l.getD k a8).Time:=by
      rcases NK T P j with h|h<;>omega
     have ew:i64.wrap ((l.getD i a8).Time-(l.getD k a8).Time)=(l.getD i a8).Time-(l.getD k a8).Time:=Z1 (by omega);have R:i64.wrap ((l.getD k a8).Time-(l.getD i a8).Time)=(l.getD k a8).Time-(l.getD i a8).Time:=Z1 (by omega)
     have ea:EC ((l.getD i a8).Time-(l.getD k a8).Time)=au ((l.getD k a8).Time-(l.getD i a8).Time):=by
      unfold EC
      by_cases q:(l.getD i a8).Time-(l.getD k a8).Time<0
      ·rw[if_pos (decide_eq_true q),Z1 (by omega)];congr 1;omega
      ·rw[if_neg (by simpa using q)];congr 1;omega
     have es:Eg=Fg:=id rfl;simp only[Ca,Ad,DC,bs,j,c,decide_true,if_true,Af,AB,dX,ew,R,ea,es,b7,b9,b6];generalize ((l.getD i a8).Star==(l.getD k a8).Star)=A;generalize be ((l.getD k a8).Time-(l.getD i a8).Time<=C)=B;cases Fg (l.getD i a8) (l.getD k a8) y with
     | none=>cases A<;>cases B<;>rfl
     | some b=>cases A<;>cases B<;>cases b<;>rfl
    ·have c2:¬ (k:Int)<(l.length:Int):=by omega
     simp[Ca,Ad,c2]) (by
    rintro⟨out,z⟩ s' ⟨k,J,P,I⟩ e;have J:z=(k:Int):=J;subst J
    by_cases j:k<l.length
    ·refine⟨k+1,?_,by omega,j⟩
     have U:s'.2=i64.wrap ((k:Int)+1):=by
      simp only[Ca,bs,j,c,decide_true,if_true,Af,AB] at e;obtain⟨_,e⟩:=AO e;split at e
      ·obtain⟨_,e⟩:=AO e;cases e;rfl
      ·cases e;rfl
     rw[U,Aa (by omega)]
    ·have c2:¬ (k:Int)<(l.length:Int):=by omega
     simp[Ca,c2] at e) (s:=(out,((i+1:Nat):Int))) ⟨i+1,rfl,by omega,c⟩]
  ·have c2:¬ (i:Int)<(l.length:Int):=by omega
   simp[Cb,AZ,c2]) (by
  rintro⟨out,z⟩ s' ⟨i,hi,I⟩ e;have hi:z=(i:Int):=hi;subst hi
  by_cases c:i<l.length
  ·simp only[Cb,bs,c,decide_true,if_true] at e;obtain⟨y,_,e⟩:=AN e;cases e
   exact⟨i+1,Aa (by omega),c⟩
  ·have c2:¬ (i:Int)<(l.length:Int):=by omega
   simp[Cb,c2] at e) (s:=(([]:List (List Int)),0)) ⟨0,rfl,cS _⟩
 rw[hw];simp only[Es,De,b5,b7,b9,b6,AB];cases AE (AZ (l.length:Int) l C y (l.length:Int)) (([]:List (List Int)),0)<;>rfl
theorem nJ{l:List AA}(hl:l.length<=100)(J y:Int):∃ ps z,Cl l J y=au (ps,z)∧ps.length<=1000000:=by
 have hc:∀ i k:Nat,i<l.length->k<l.length->∃ b,DC (i:Int) (k:Int) l J y=au b:=fun i k hi C=>by
  have T:∀ n,(EC n).isSome=true:=fun n=>by unfold EC;split<;>rfl
  have hd:∀ a b:AA,(Eg a b y).isSome=true:=fun a b=>by
   unfold Eg;split
   ·rfl
   ·split
    ·rfl
    ·split
     ·rfl
     ·obtain⟨v,R⟩:=zX (T (i64.wrap (a.Mag-b.Mag)));rw[R];rfl
  unfold DC;simp only[Af,hi,C,decide_true,AB,T,hd,b6];exact⟨_,rfl⟩
 unfold Cl;rw[Hu (by omega),b5];simp only[Es,b5,b7,b9,b6,AB];split
 ·exact⟨_,_,rfl,by simp⟩
 ·split
  ·exact⟨_,_,rfl,by simp⟩
  ·obtain⟨r,hr,hq⟩:=Dq (step:=AZ (l.length:Int) l J y (l.length:Int)) (fun s=>∃ i:Nat,s.2=(i:Int)∧i<=l.length∧s.1.length<=100*i) (fun r=>r.length<=1000000) (fun s=>l.length-s.2.toNat) (by
    rintro⟨out,z⟩ ⟨i,hi,ad,j⟩;have hi:z=(i:Int):=hi;have j:out.length<=100*i:=j;subst hi
    by_cases I:i<l.length
    ·left
     obtain⟨v,R,P⟩:=Dq (step:=Ad (l.length:Int) l J y (i:Int) (l.length:Int) (i:Int)) (fun s=>∃ k:Nat,s.2=(k:Int)∧k<=l.length∧s.1.length<=100*i+k) (fun r=>r.length<=100*(i+1)) (fun s=>l.length-s.2.toNat) (by
      rintro⟨o2,U⟩ ⟨k,C,ae,p⟩;have C:U=(k:Int):=C;have p:o2.length<=100*i+k:=p;subst C
      by_cases c2:k<l.length
      ·left;obtain⟨b,hb⟩:=hc i k I c2;simp only[Ad,bs,c2,decide_true,if_true,hb,b5,(Z4 k)];cases b with
       | true=>
        simp only[if_true];rw[Ba (by simp;omega),AB];exact⟨_,rfl,⟨k+1,rfl,c2,by simp;omega⟩,by simp only[dX];omega⟩
       | false=>
        simp only[ct,if_false];exact⟨_,rfl,⟨k+1,rfl,c2,by simp only;omega⟩,by simp only[dX];omega⟩
      ·right;have c3:¬ (k:Int)<(l.length:Int):=by omega
       simp only[Ad,c3,decide_false,ct,if_false];exact⟨_,rfl,by omega⟩) (s:=(out,((i+1:Nat):Int))) ⟨i+1,rfl,I,by simp only;omega⟩
     simp only[AZ,bs,I,decide_true,if_true,(Z4 i),R,b5];exact⟨_,rfl,⟨i+1,rfl,I,P⟩,by simp only[dX];omega⟩
    ·right;have c2:¬ (i:Int)<(l.length:Int):=by omega
     simp only[AZ,c2,decide_false,ct,if_false];exact⟨_,rfl,by omega⟩) (s:=([],0)) ⟨0,rfl,cS _,by simp⟩
   unfold BS;rw[hr];exact⟨_,_,rfl,hq⟩
end Go.Proofs.YtegmpdmpgmpiaaaGreatDoor
namespace Go.Proofs.YtegmpdmpgmpiaaaGreatDoor
open Go Go.RowKit Go.Proofs.YtegmpdmpgmpiaaaGreatDoor.l28
def lP(n:List UInt8):List UInt8:=[101,114,114,111,114,32]++n
theorem Ld{n:Nat}(h:n<=10000000):few n=true:=decide_eq_true (by omega)
theorem Pf{s:FL}(h:s.out.length<=10000000)(t:List UInt8):Mv s t=au { s with out:=s.out++[t] }:=by
 unfold Mv;rw[Ld h,AB]
theorem KX(s:FL):IF s 0=au (a7,s):=rfl
theorem UA{s:FL}(h:s.out.length<=10000000){z:Int}(i:z≠0):∃ n,DM z=au n∧n.length<=20∧IF s z=au (ax,{ s with out:=s.out++[lP n] }):=by
 obtain⟨n,p,j,l⟩:=Sj z;refine⟨n,p,l,?_⟩;unfold IF;rw[if_neg (by simpa using i),j,b5,Au (by omega),AB,Pf h];rfl
def AIJ(d:Bp)(o out:List (List UInt8))(z:Int)(d':Bp)(r:Option FL):Prop := ∃ s',r=au s'∧((z=0∧s'.d=d'∧s'.out=o++out)∨(z≠0∧s'.d=d∧∃ n,DM z=au n∧s'.out=o++[lP n]))
theorem Vb{s:FL}(h:s.out.length<=1000000){n z:Int}(C:SD n):∃ t,BJ n=au t∧t.length<=21∧AIJ s.d s.out [t] z s.d (YH s n z):=by
 obtain⟨t,J,I,l⟩:=PW C;refine⟨t,J,l,?_⟩;unfold YH
 by_cases i:z=0
 ·subst i;rw[KX,b5,if_neg (by simp),I,b5];exact⟨_,Pf (by simp only;omega) t,.inl ⟨rfl,rfl,rfl⟩⟩
 ·obtain⟨m,p,_,j⟩:=UA (s:=s) (by omega) i;rw[j];exact⟨_,rfl,.inr ⟨i,rfl,m,p,rfl⟩⟩
theorem Ka{s:FL}(h:s.out.length<=1000000){z:Int}(i:z≠0){d d':Bp}(hd:s.d=d){o out:List (List UInt8)}(ho:s.out=o)(k:Bool×FL->Option FL)(C:∀ s,k (ax,s)=au s):AIJ d o out z d' ((IF s z).bind k):=by
 obtain⟨m,p,_,j⟩:=UA (s:=s) (by omega) i;rw[j,b5,C];exact⟨_,rfl,.inr ⟨i,hd,m,p,by rw[ho]⟩⟩
theorem LN{x:List UInt8}(i:x.length<=1048576):∃ n b,La x=au (n,b)∧Bi x=au (n,b):=by
 refine⟨(CK x).1,(CK x).2,PJ i,?_⟩;rw[KH i]
theorem fS{x:List UInt8}(i:x.length<=1048576):∃ n b,CH x=au (n,b)∧CZ x=au (n,b):=by
 obtain⟨y,p,j⟩:=gq i;exact⟨y.1,y.2,p,j⟩
theorem xS(x:List UInt8):ME 101 x=(Nk 60 x).2∧(if ME 101 x=ax then x.drop 1 else x)=(Nk 60 x).1:=by
 cases x with
 | nil=>exact⟨rfl,rfl⟩
 | cons c r=>
  unfold ME Nk
  by_cases h:c=60
  ·subst h;simp
  ·simp[h]
theorem PY(s:FL)(x:List UInt8)(h:s.texts.length<=1000):word s 120 x=au (ax,{ s with texts:=s.texts++[x] }):=by
 unfold word;rw[if_pos (by decide),Ld (by omega),AB]
theorem Lp(s:FL){x:List UInt8}{n:Int}{b:Bool}(e:Bi x=au (n,b))(h:s.nums.length<=1000):word s 110 x=au (b,{ s with nums:=s.nums++[n] }):=by
 unfold word;rw[if_neg (by decide),if_pos (by decide),e,b5,Ld (by omega),AB]
theorem fO(s:FL){x:List UInt8}{n:Int}{b:Bool}(e:CZ x=au (n,b))(h:s.nums.length<=1000):word s 109 x=au (b,{ s with nums:=s.nums++[n],faint:=false }):=by
 have i:ME 109 x=false:=rfl;unfold word;rw[if_neg (by decide),if_neg (by decide),i,if_neg (by decide),e,b5,Ld (by omega),AB]
theorem AFT(s:FL){x:List UInt8}{n:Int}{b:Bool}(e:CZ (Nk 60 x).1=au (n,b))(h:s.nums.length<=1000):word s 101 x=au (b,{ s with nums:=s.nums++[n],faint:=(Nk 60 x).2 }):=by
 obtain⟨j,i⟩:=xS x;unfold word;rw[if_neg (by decide),if_neg (by decide),i,j,e,b5,Ld (by omega),AB]
theorem xl(c:UInt8)(x:List UInt8):(Nk c x).1.length<=x.length:=by
 cases x with
 | nil=>simp[Nk]
 | cons y r=>by_cases i:y=c<;>simp[Nk,i]
theorem wl(f:UInt8)(i x:List UInt8)(r:List (List UInt8))(s:FL)(h:x.length<=1048576):Ki (f::i) (x::r) s=(word s f x).bind fun q=>if q.1 then Ki i r q.2 else au (a7,q.2):=by
 rw[Ki,decide_eq_true (by omega),AB]
theorem eo(r:List (List UInt8))(s:FL):Ki [] r s=au (ax,s):=by rw[Ki]
theorem mo(kinds:List UInt8)(i:Nat)(x:List UInt8)(r:List (List UInt8))(j:List Int)(f b:Bool)(C:i<kinds.length)(h2:i+1<j.length)(p:kinds.getD i 0=119):AX kinds i (x::r) j f b=AX kinds (i+1) r j f b:=by
 rw[AX,decide_eq_true C,AB,decide_eq_true h2,AB,p,if_neg (by decide),if_neg (by decide),if_neg (by decide)]
theorem Ya(kinds:List UInt8)(i:Nat){x:List UInt8}{n:Int}{q:Bool}(e:La x=au (n,q))(r:List (List UInt8))(j:List Int)(f b:Bool)(C:i<kinds.length)(h2:i+1<j.length)(p:kinds.getD i 0=110):AX kinds i (x::r) j f b=AX kinds (i+1) r (j.set (i+1) n) f (b || !q):=by
 rw[AX,decide_eq_true C,AB,decide_eq_true h2,AB,p,if_pos (by decide),e,b5]
theorem AJV(kinds:List UInt8)(i:Nat){x:List UInt8}{n:Int}{q:Bool}(e:CH x=au (n,q))(r:List (List UInt8))(j:List Int)(f b:Bool)(C:i<kinds.length)(h2:i+1<j.length)(p:kinds.getD i 0=109):AX kinds i (x::r) j f b=AX kinds (i+1) r (j.set (i+1) n) f (b || !q):=by
 rw[AX,decide_eq_true C,AB,decide_eq_true h2,AB,p,if_neg (by decide),if_pos (by decide),e,b5]
theorem rl_f(kinds:List UInt8)(i:Nat){x:List UInt8}{n:Int}{q:Bool}(I:x.length<=1048576)(e:CH (Nk 60 x).1=au (n,q))(r:List (List UInt8))(j:List Int)(f b:Bool)(C:i<kinds.length)(h2:i+1<j.length)(p:kinds.getD i 0=102):AX kinds i (x::r) j f b=AX kinds (i+1) r (j.set (i+1) n) (Nk 60 x).2 (b || !q):=by
 rw[AX,decide_eq_true C,AB,decide_eq_true h2,AB,p,if_neg (by decide),if_neg (by decide),if_pos (by decide),QQ 60 (by omega),b5,e,b5]
def gx(kinds form:List UInt8)(args:List (List UInt8))(i:List Int)(f:Bool)(d:Bp)(o:List (List UInt8))(j:FL):Prop := ∃ wrong,AX kinds 0 args (dw (args.length+1) 0) a7 a7=au (i,f,wrong) ∧((wrong=ax∧∃ s',Ki form args ⟨d,o,[],[],a7⟩=au (a7,s')∧s'.d=d∧s'.out=o)∨(wrong=a7∧Ki form args ⟨d,o,[],[],a7⟩=au (ax,j)))
section
variable {d:Bp}{o:List (List UInt8)}{a b c e g:List UInt8}
theorem AFq:gx [] [] [] [0] a7 d o ⟨d,o,[],[],a7⟩:=⟨a7,rfl,.inr ⟨rfl,eo [] _⟩⟩
theorem mt(i:a.length<=1048576):gx [119] [120] [a] [0,0] a7 d o ⟨d,o,[],[a],a7⟩:=by
 refine⟨a7,?_,.inr ⟨rfl,?_⟩⟩
 ·rw[mo _ _ _ _ _ _ _ (by decide) (by simp) rfl];rfl
 ·rw[wl _ _ _ _ _ i,PY _ _ (by simp),b5];exact eo [] _
theorem AAC(j:a.length<=1048576)(i:b.length<=1048576):∃ n,gx [119,110] [120,110] [a,b] [0,0,n] a7 d o ⟨d,o,[n],[a],a7⟩:=by
 obtain⟨n,q,C,p⟩:=LN i;refine⟨n,!q,?_,?_⟩
 ·rw[mo _ _ _ _ _ _ _ (by decide) (by simp) rfl,Ya _ _ C _ _ _ _ (by decide) (by simp) rfl];rfl
 ·rw[wl _ _ _ _ _ j,PY _ _ (by simp),b5,if_pos rfl,wl _ _ _ _ _ i,Lp _ p (by simp),b5];cases q
  ·exact .inl ⟨rfl,_,rfl,rfl,rfl⟩
  ·exact .inr ⟨rfl,eo [] _⟩
theorem AAD(j:a.length<=1048576)(i:b.length<=1048576):∃ n m,gx [110,110] [110,110] [a,b] [0,n,m] a7 d o ⟨d,o,[n,m],[],a7⟩:=by
 obtain⟨n,q,J,C⟩:=LN j;obtain⟨m,r,I,p⟩:=LN i;refine⟨n,m,!q || !r,?_,?_⟩
 ·rw[Ya _ _ J _ _ _ _ (by decide) (by simp) rfl,Ya _ _ I _ _ _ _ (by decide) (by simp) rfl];rfl
 ·rw[wl _ _ _ _ _ j,Lp _ C (by simp),b5];cases q
  ·exact .inl ⟨rfl,_,rfl,rfl,rfl⟩
  ·rw[if_pos rfl,wl _ _ _ _ _ i,Lp _ p (by simp),b5];cases r
   ·exact .inl ⟨rfl,_,rfl,rfl,rfl⟩
   ·exact .inr ⟨rfl,eo [] _⟩
theorem vW(j:a.length<=1048576)(p:b.length<=1048576)(i:c.length<=1048576):∃ n m,gx [110,119,110] [110,120,110] [a,b,c] [0,n,0,m] a7 d o ⟨d,o,[n,m],[b],a7⟩:=by
 obtain⟨n,q,P,I⟩:=LN j;obtain⟨m,r,J,C⟩:=LN i;refine⟨n,m,!q || !r,?_,?_⟩
 ·rw[Ya _ _ P _ _ _ _ (by decide) (by simp) rfl,mo _ _ _ _ _ _ _ (by decide) (by simp) rfl,Ya _ _ J _ _ _ _ (by decide) (by simp) rfl];rfl
 ·rw[wl _ _ _ _ _ j,Lp _ I (by simp),b5];cases q
  ·exact .inl ⟨rfl,_,rfl,rfl,rfl⟩
  ·rw[if_pos rfl,wl _ _ _ _ _ p,PY _ _ (by simp),b5,if_pos rfl,wl _ _ _ _ _ i,Lp _ C (by simp),b5];cases r
   ·exact .inl ⟨rfl,_,rfl,rfl,rfl⟩
   ·exact .inr ⟨rfl,eo [] _⟩
theorem sO(C:a.length<=1048576)(p:b.length<=1048576)(j:c.length<=1048576)(i:e.length<=1048576):∃ n m k,gx [119,110,110,110] [120,110,110,110] [a,b,c,e] [0,0,n,m,k] a7 d o ⟨d,o,[n,m,k],[a],a7⟩:=by
 obtain⟨n,q,U,P⟩:=LN p;obtain⟨m,r,T,J⟩:=LN j;obtain⟨k,t,R,I⟩:=LN i;refine⟨n,m,k,(!q || !r) || !t,?_,?_⟩
 ·rw[mo _ _ _ _ _ _ _ (by decide) (by simp) rfl,Ya _ _ U _ _ _ _ (by decide) (by simp) rfl,Ya _ _ T _ _ _ _ (by decide) (by simp) rfl,Ya _ _ R _ _ _ _ (by decide) (by simp) rfl];rfl
 ·rw[wl _ _ _ _ _ C,PY _ _ (by simp),b5,if_pos rfl,wl _ _ _ _ _ p,Lp _ P (by simp),b5];cases q
  ·exact .inl ⟨rfl,_,rfl,rfl,rfl⟩
  ·rw[if_pos rfl,wl _ _ _ _ _ j,Lp _ J (by simp),b5];cases r
   ·exact .inl ⟨rfl,_,rfl,rfl,rfl⟩
   ·rw[if_pos rfl,wl _ _ _ _ _ i,Lp _ I (by simp),b5];cases t
    ·exact .inl ⟨rfl,_,rfl,rfl,rfl⟩
    ·exact .inr ⟨rfl,eo [] _⟩
theorem sP(J:a.length<=1048576)(I:b.length<=1048576)(C:c.length<=1048576)(p:e.length<=1048576)(i:g.length<=1048576):∃ n m k j,gx [119,110,110,109,109] [120,110,110,109,109] [a,b,c,e,g] [0,0,n,m,k,j] a7 d o ⟨d,o,[n,m,k,j],[a],a7⟩:=by
 obtain⟨n,q,e1,U⟩:=LN I;obtain⟨m,r,e2,T⟩:=LN C;obtain⟨k,t,e3,R⟩:=fS p;obtain⟨j,u,e4,P⟩:=fS i;refine⟨n,m,k,j,((!q || !r) || !t) || !u,?_,?_⟩
 ·rw[mo _ _ _ _ _ _ _ (by decide) (by simp) rfl,Ya _ _ e1 _ _ _ _ (by decide) (by simp) rfl,Ya _ _ e2 _ _ _ _ (by decide) (by simp) rfl,AJV _ _ e3 _ _ _ _ (by decide) (by simp) rfl,AJV _ _ e4 _ _ _ _ (by decide) (by simp) rfl];rfl
 ·rw[wl _ _ _ _ _ J,PY _ _ (by simp),b5,if_pos rfl,wl _ _ _ _ _ I,Lp _ U (by simp),b5];cases q
  ·exact .inl ⟨rfl,_,rfl,rfl,rfl⟩
  ·rw[if_pos rfl,wl _ _ _ _ _ C,Lp _ T (by simp),b5];cases r
   ·exact .inl ⟨rfl,_,rfl,rfl,rfl⟩
   ·rw[if_pos rfl,wl _ _ _ _ _ p,fO _ R (by simp),b5];cases t
    ·exact .inl ⟨rfl,_,rfl,rfl,rfl⟩
    ·rw[if_pos rfl,wl _ _ _ _ _ i,fO _ P (by simp),b5];cases u
     ·exact .inl ⟨rfl,_,rfl,rfl,rfl⟩
     ·exact .inr ⟨rfl,eo [] _⟩
theorem vX(j:a.length<=1048576)(I:b.length<=1048576)(C:c.length<=1048576)(i:e.length<=1048576):∃ n m f,gx [110,119,119,102] [110,120,120,101] [a,b,c,e] [0,n,0,0,m] f d o ⟨d,o,[n,m],[b,c],f⟩:=by
 obtain⟨n,q,T,P⟩:=LN j;have p:=xl 60 e;obtain⟨m,r,R,J⟩:=fS (x:=(Nk 60 e).1) (by omega);refine⟨n,m,(Nk 60 e).2,!q || !r,?_,?_⟩
 ·rw[Ya _ _ T _ _ _ _ (by decide) (by simp) rfl,mo _ _ _ _ _ _ _ (by decide) (by simp) rfl,mo _ _ _ _ _ _ _ (by decide) (by simp) rfl,rl_f _ _ i R _ _ _ _ (by decide) (by simp) rfl];rfl
 ·rw[wl _ _ _ _ _ j,Lp _ P (by simp),b5];cases q
  ·exact .inl ⟨rfl,_,rfl,rfl,rfl⟩
  ·rw[if_pos rfl,wl _ _ _ _ _ I,PY _ _ (by simp),b5,if_pos rfl,wl _ _ _ _ _ C,PY _ _ (by simp),b5,if_pos rfl,wl _ _ _ _ _ i,AFT _ J (by simp),b5];cases r
   ·exact .inl ⟨rfl,_,rfl,rfl,rfl⟩
   ·exact .inr ⟨rfl,eo [] _⟩
end
theorem nT{log what:List UInt8}(p:log.length<=1048576):∃ r,Iq log what=au (r,if Jh log=0∧Jf what=a7 then 2 else Jh log)∧(Jh log=0->r=VY log (Dw log)):=by
 unfold Iq;obtain⟨r,C,j⟩:=TG p;rw[C];simp only[b5,IU,b7,b6,AB,b9];refine⟨r,?_,j⟩
 by_cases h:Jh log=0
 ·have i:(Jh log==0)=ax:=by rw[h];rfl
  cases I:Jf what
  ·simp[i,h]
  ·simp[i,h]
 ·have i:(Jh log==0)=false:=beq_eq_false_iff_ne.2 h;simp only[i,Bool.false_and,ct,if_false,h,false_and]
theorem uz{l:List Int}(P:l.length<=1099511627776):∃ y,JI l=au y∧SD y:=by
 obtain⟨y,C,J⟩:=Dq (step:=Hl l (l.length:Int)) (fun s=>(∃ i:Nat,s.2=(i:Int)∧i<=l.length)∧SD s.1) SD (fun s=>l.length-s.2.toNat) (by
  rintro⟨n,z⟩ ⟨⟨i,hi,I⟩,j⟩;have hi:z=(i:Int):=hi;have j:SD n:=j;subst hi
  by_cases c:i<l.length
  ·left;have p:(i:Int)<(l.length:Int):=by omega
   simp only[Hl,p,decide_true,if_true,Af,c,AB,(Z4 i)];exact⟨_,rfl,⟨⟨i+1,rfl,c⟩,pC _⟩,by simp only[dX];omega⟩
  ·right;have p:¬ (i:Int)<(l.length:Int):=by omega
   simp only[Hl,p,decide_false,ct,if_false];exact⟨_,rfl,j⟩) (s:=(0,0)) ⟨⟨0,rfl,cS _⟩,by unfold SD;decide⟩
 unfold JI;rw[C];exact⟨_,rfl,J⟩
theorem mE{log:List UInt8}(h:XJ log){what:List UInt8}(I:Jf what=ax):∃ l,FH log what=au (l,0)∧EO log what=au (l,0)∧l.length<=4000:=by
 have j:=h.code;have J:=h.len;unfold FH EO;obtain⟨es,e2,T,h2⟩:=VH (log:=log) (by omega);obtain⟨r,U,R⟩:=nT (log:=log) (what:=what) (by omega);obtain rfl:=T j;obtain rfl:=R j;obtain⟨b1,b2,b3⟩:=Xt j;rw[e2,U];have C:¬ (Jh log=0∧Jf what=a7):=fun c=>by rw[I] at c;exact absurd c.2 (by decide)
 rw[if_neg C];simp only[b5,j,beq_self_eq_true,a',ct,if_false,Ib,I]
 have P:=Sl (step:=Be what (Dw log).1 ((Dw log).1.length:Int)) (fun i=>((Dw log).1.getD i a8).What==what) (fun i=>((Dw log).1.getD i a8).Value) (Dw log).1.length (r:=Na (α:=Int) (fun i=>((Dw log).1.getD i a8).What==what) (fun i=>((Dw log).1.getD i a8).Value) (Dw log).1.length) (fun out i hi ho=>by
  simp only[Be,IZ,bs,hi,decide_true,if_true,Af,AB,dX,b5,(Z4 i)];rw[Ba (by simp;omega),AB];split<;>rfl) (by simp[Be])
 have hs:=Sl (step:=GK what (VY log (Dw log))) (fun i=>((Dw log).1.getD i a8).What==what) (fun i=>((Dw log).1.getD i a8).Value) (Dw log).1.length (r:=Na (α:=Int) (fun i=>((Dw log).1.getD i a8).What==what) (fun i=>((Dw log).1.getD i a8).Value) (Dw log).1.length) (fun out i hi ho=>by
  have p:(VY log (Dw log)).list_=(Dw log).1:=rfl;simp only[GK,p,bs,hi,decide_true,if_true,Af,AB,dX,b5,(Z4 i)];rw[Ba (by simp;omega),AB];split<;>rfl) (by
  have p:(VY log (Dw log)).list_=(Dw log).1:=rfl;simp[GK,p])
 unfold Cg;rw[P,hs];exact⟨_,rfl,rfl,Nat.le_trans (Yz _ _ _) b3⟩
theorem Wq{s:FL}(hs:s.out.length<=1000000){l:List (List UInt8)}(C:l.length<=4000)(h:∀ x∈l,x.length<=200):∃ out,Ho l=au out∧mG out∧listed s l=au { s with out:=s.out++out }:=by
 obtain⟨a,j,i,p⟩:=PW (n:=(l.length:Int)) ⟨by omega,by omega⟩;unfold Ho Hp listed;rw[b5,j,b5,Au (by simp;omega),AB,Ba (by simp;omega),AB,Ld (by omega),AB,i,b5,Au (by omega),AB,Pf (by simp;omega)];refine⟨_,rfl,⟨by simp;omega,fun s hs=>?_⟩,by simp⟩;rcases cm.1 hs with q|q
 ·have:=h s q;omega
 ·obtain rfl:s=[111,107,32]++a:=by simpa using q
  simp;omega
def ptL(p:AJ):List UInt8:=bS p.Time++[32]++Oy p.Mag
theorem AFs{p:AJ}(h:Yk p=ax):SD p.Time∧-2000<=p.Mag∧p.Mag<=20000∧(ptL p).length<=200:=by
 unfold Yk at h;simp only[baT,dtE] at h;have i:SD p.Time:=⟨by omega,by omega⟩;have:=FO i;have:=(Ox h.2.1 h.2.2).2;exact⟨i,h.2.1,h.2.2,by unfold ptL;simp;omega⟩
theorem eh:∀ (c:List AJ) (acc:List (List UInt8)),(∀ p∈c,Yk p=ax)->acc.length+c.length<=1000->RM acc c=au (acc++c.map ptL)
 | [],acc,_,_=>by rw[RM];simp
 | p::r,acc,h,I=>by
  obtain⟨j,h2,i,_⟩:=AFs (h p (by simp));have P:=FO j;have J:=(Ox h2 i).2;rw[bb] at I;rw[RM,JQ j,b5,Au (by omega),AB,Pp h2 i,b5,Au (by omega),Ld (by omega),bR,AB,eh r _ (fun q C=>h q (bN _ C)) (by simp;omega)];simp[ptL]
theorem uI{c:List AJ}(h:∀ p∈c,Yk p=ax)(P:c.length<=1000):AE (DY c (c.length:Int)) (([]:List (List UInt8)),0)=au (c.map ptL):=by
 have:=LH (step:=DY c (c.length:Int)) (fun i=>(c.take i).map ptL) c.length (r:=c.map ptL) (fun i hi=>by
  obtain⟨C,h2,j,_⟩:=AFs (h _ (Id hi a8));have J:=FO C;have I:=(Ox h2 j).2;simp only[DY,bs,hi,decide_true,if_true,Af,AB,dX,Jy C,QN h2 j,b5,(Z4 i)];rw[Au (by simp only[bb,dc];omega),AB,Au (by simp only[b4,bb,dc];omega),AB,Ba (by simp;omega),AB,bo hi,cn,Cm hi];rfl) (by simp[DY])
 simpa using this
theorem pg:∀ (l:List AW) (acc:List (List UInt8)),(∀ e∈l,JY e=ax)->acc.length+l.length<=10000->kL acc l=au (acc++l.map Hx)
 | [],acc,_,_=>by rw[kL];simp
 | e::r,acc,h,j=>by
  rw[bb] at j;rw[kL,OF (h e (by simp)),b5,Ld (by omega),AB,pg r _ (fun q i=>h q (bN _ i)) (by simp;omega)];simp
theorem AAV(d:Bp)(z:Int){l:List AW}(h:∀ e∈l,JY e=ax)(p:l.length<=10000):AE (DZ d z l (l.length:Int)) (([]:List (List UInt8)),0)=au (l.map Hx):=by
 have:=LH (step:=DZ d z l (l.length:Int)) (fun i=>(l.take i).map Hx) l.length (r:=l.map Hx) (fun i hi=>by
  have j:=h _ (Id hi a8);simp only[DZ,bs,hi,decide_true,if_true,Af,AB,dX,YG j,b5,(Z4 i)];rw[Ba (by simp;omega),AB,bo hi,cn,Cm hi];rfl) (by simp[DZ])
 simpa using this
theorem ZB(a x:List UInt8)(r:List (List UInt8))(p:List UInt8):bI (a::x::r) p=a++p++bI (x::r) p:=by simp[bI]
theorem lC:∀ (l:List Int) (i:Nat) (acc:List UInt8),(∀ x∈l,SD x)->acc.length+30*l.length<=100000->Ul i acc l=au (if l=[] then acc else (if 0<i then acc++[32] else acc)++bI (l.map bS) [32])
 | [],i,acc,_,_=>by rw[Ul,if_pos rfl]
 | n::r,i,acc,h,C=>by
  have j:=h n (by simp);have I:=FO j;rw[bb] at C;have J:(if 0<i then acc++[32] else acc).length<=acc.length+1:=by split<;>simp
  rw[Ul,decide_eq_true (by omega),AB,JQ j,b5,Au (by omega),AB,lC r (i+1) _ (fun q p=>h q (bN _ p)) (by rw[b4];omega)];cases r with
  | nil=>rw[if_pos rfl,if_neg (cl _ _)];simp[bI]
  | cons x r=>
   rw[if_neg (cl _ _),if_neg (cl _ _),if_pos (Nat.succ_pos i),b',b',b',ZB];simp
theorem tQ{l:List Int}(p:l.length<=100)(h:∀ x∈l,SD x):LD l=au (bI (l.map bS) [32])∧(bI (l.map bS) [32]).length<=2200:=by
 have I:=kZ (m:=21) [32] (l:=l.map bS) fun s hs=>by
  obtain⟨x,j,rfl⟩:=cI.1 hs;exact FO (h x j)
 rw[df] at I;have C:l.length*(21+([32]:List UInt8).length)<=100*22:=Nat.mul_le_mul p (by simp)
 have:=LH (step:=GY l (l.length:Int)) (fun i=>(l.take i).map bS) l.length (r:=l.map bS) (fun i hi=>by
  simp only[GY,bs,hi,decide_true,if_true,Af,AB,dX,Jy (h _ (Id hi a8)),b5,(Z4 i)];rw[Ba (by simp;omega),AB,bo hi,cn,Cm hi];rfl) (by simp[GY])
 refine⟨?_,by omega⟩;unfold LD;rw[show AE (GY l (l.length:Int)) (([]:List (List UInt8)),0)=au (l.map bS) by simpa using this,b5];unfold Wx fl;rw[if_pos (by simp;omega)];rfl
theorem AAf{l:List Int}(h:l≠[]):bI (l.map bS) [32]≠[]:=by
 have hi:∀ n,bS n≠[]:=fun n e=>by
  unfold bS at e;split at e
  ·cases e
  ·have:=KL n.toNat;rw[e] at this;simp at this
 cases l with
 | nil=>exact absurd rfl h
 | cons n r=>
  cases r with
  | nil=>simpa[bI] using hi n
  | cons x r=>
   rw[b',b',ZB];have:=hi n;simp[this]
structure ib(d:Bp):Prop where
 gs:KS d.Stars=ax
 ls:d.Stars.length<=60
 ge:FY d.Estimates=ax
 le:d.Estimates.length<=100
 lo:XJ d.Log
def Ra(d:Bp)(o:List (List UInt8))(c:EM)(w:List UInt8)(i:FL):Prop := ∃ out z d',Ai d c=au (out,z,d')∧mG out∧(z=0->ib d')∧AIJ d o out z d' (Up i w)
theorem Ms(s:List UInt8)(z:Int):Ep s z=au ([s],z):=rfl
section
variable {d:Bp}{o:List (List UInt8)}(hd:ib d)(ho:o.length<=1000000)
include hd ho
theorem tt(a b c e g:List UInt8)(n m k j:Int):Ra d o ⟨[[115,116,97,114],a,b,c,e,g],[0,0,n,m,k,j],a7,a7⟩ [115,116,97,114] ⟨d,o,[n,m,k,j],[a],a7⟩:=by
 have T:=hd.ls;have U:=hd.le;have i:=ABo (l:=d.Stars) (x:=⟨a,n,m,k,j⟩) (by omega);have C:=zD (l:=d.Stars) (x:=⟨a,n,m,k,j⟩) (by omega);have J:=pB (l:=d.Stars) (by omega) ⟨a,n,m,k,j⟩;have I:=XN (l:=d.Stars) (by omega) ⟨a,n,m,k,j⟩;generalize XV d.Stars ⟨a,n,m,k,j⟩=r at i C J I;obtain⟨t,R,P,t3⟩:=Rb (d:=⟨r.1,d.Estimates,d.Log⟩) (by simp only;omega) (by simp only;omega);refine⟨[t],r.2,⟨r.1,d.Estimates,d.Log⟩,?_,MB (by omega),fun p=>?_,?_⟩
 ·unfold Ai Ct;rw[show AU 0 ([[115,116,97,114],a,b,c,e,g]:List (List UInt8)).length=ax from rfl,AB,if_pos (by rfl),AB,if_pos (by rfl)];simp only[av,a6];rw[show AU 1 ([[115,116,97,114],a,b,c,e,g]:List (List UInt8)).length=ax from rfl,AB,show AU 2 ([0,0,n,m,k,j]:List Int).length=ax from rfl,AB,show AU 3 ([0,0,n,m,k,j]:List Int).length=ax from rfl,AB,show AU 4 ([0,0,n,m,k,j]:List Int).length=ax from rfl,AB,show AU 5 ([0,0,n,m,k,j]:List Int).length=ax from rfl,AB,J,b5,R,b5,Ms];rfl
 ·obtain⟨g1,g2,g3⟩:=i p;exact⟨g1,g2,hd.ge,hd.le,hd.lo⟩
 ·unfold Up star;rw[if_pos (by rfl),show (be (1<=([a]:List (List UInt8)).length)&&be (4<=([n,m,k,j]:List Int).length))=ax from rfl,AB];simp only[av,a6];rw[I,b5]
  by_cases p:r.2=0
  ·rw[p,KX,b5,if_neg (by exact nF)];simp only;rw[P,b5];exact⟨_,Pf (by simp only;omega) t,.inl ⟨rfl,rfl,rfl⟩⟩
  ·exact Ka (by simp only;omega) p rfl rfl _ fun s=>rfl
theorem xU(a b c e:List UInt8)(n m:Int)(f:Bool):Ra d o ⟨[[101,115,116],a,b,c,e],[0,n,0,0,m],f,a7⟩ [101,115,116] ⟨d,o,[n,m],[b,c],f⟩:=by
 have ab:=hd.ls;have ac:=hd.le;obtain⟨z,T,R⟩:=Yx (l:=d.Stars) (by omega) b
 have C:Ai d ⟨[[101,115,116],a,b,c,e],[0,n,0,0,m],f,a7⟩=(Fz d.Stars b).bind fun y=>if (!y) then au (([]:List (List UInt8)),3,d) else (Dm d.Estimates ⟨n,b,c,m,f⟩).bind fun y=>(EY (Bp.mk d.Stars y.1 d.Log)).bind fun t=>au ([t],y.2,(Bp.mk d.Stars y.1 d.Log)):=by
  unfold Ai Ct;rw[show AU 0 ([[101,115,116],a,b,c,e]:List (List UInt8)).length=ax from rfl,AB,if_neg (by exact nF),if_pos (by rfl),AB,if_neg (by exact nF),if_pos (by rfl)];simp only[av,a6];rw[show AU 2 ([[101,115,116],a,b,c,e]:List (List UInt8)).length=ax from rfl,AB,show AU 3 ([[101,115,116],a,b,c,e]:List (List UInt8)).length=ax from rfl,show AU 1 ([0,n,0,0,m]:List Int).length=ax from rfl,show AU 4 ([0,n,0,0,m]:List Int).length=ax from rfl];simp only[AB,Ms,b5];cases Fz d.Stars b with
  | none=>rfl
  | some y=>
   cases y with
   | false=>rfl
   | true=>
    cases Dm d.Estimates ⟨n,b,c,m,f⟩ with
    | none=>rfl
    | some q=>
     simp only[b5,a',ct,if_false];cases EY (Bp.mk d.Stars q.1 d.Log)<;>rfl
 have I:Up ⟨d,o,[n,m],[b,c],f⟩ [101,115,116]=est ⟨d,o,[n,m],[b,c],f⟩:=by
  unfold Up;rw[if_neg (by exact nF),if_pos (by rfl)]
 unfold Ra;rw[C,I,ZP (by omega),b5];unfold est;rw[show be (1<=([b,c]:List (List UInt8)).length)=ax from rfl,AB];simp only[av,a6];rw[T,b5,R];cases hs:TO d.Stars b with
 | false=>
  refine⟨[],3,d,rfl,⟨by simp,by simp⟩,fun h=>absurd h (by decide),?_⟩;rw[if_pos (by rfl)];exact Ka (by simp only;omega) (by decide) rfl rfl _ fun s=>rfl
 | true=>
  have i:=ABp (l:=d.Estimates) (e:=⟨n,b,c,m,f⟩) (by omega);have p:=zF (l:=d.Estimates) (e:=⟨n,b,c,m,f⟩);have P:=bx (l:=d.Estimates) (by omega) ⟨n,b,c,m,f⟩;have J:=SK (l:=d.Estimates) (by omega) ⟨n,b,c,m,f⟩;generalize XW d.Estimates ⟨n,b,c,m,f⟩=r at i p P J;obtain⟨t,t1,U,t3⟩:=Rb (d:=⟨d.Stars,r.1,d.Log⟩) (by simp only;omega) (by simp only;omega);refine⟨[t],r.2,⟨d.Stars,r.1,d.Log⟩,?_,MB (by omega),fun j=>?_,?_⟩
  ·rw[if_neg (by exact nF),P,b5,t1];rfl
  ·obtain⟨g1,g2,g3⟩:=i j;exact⟨hd.gs,hd.ls,g1,g2,hd.lo⟩
  ·rw[if_neg (by exact nF),show (be (2<=([b,c]:List (List UInt8)).length)&&be (2<=([n,m]:List Int).length))=ax from rfl,AB,J,b5]
   by_cases j:r.2=0
   ·rw[j,KX,b5,if_neg (by exact nF)];simp only;rw[U,b5];exact⟨_,Pf (by simp only;omega) t,.inl ⟨rfl,rfl,rfl⟩⟩
   ·exact Ka (by simp only;omega) j rfl rfl _ fun s=>rfl
theorem nq(a b c:List UInt8)(n m:Int):Ra d o ⟨[[101,110,116,101,114],a,b,c],[0,n,0,m],a7,a7⟩ [101,110,116,101,114] ⟨d,o,[n,m],[b],a7⟩:=by
 have aj:=hd.lo.len;obtain⟨lg,z,e1,ok⟩:=cY hd.lo ⟨n,b,m⟩;obtain⟨i,j,f1,R⟩:=cZ (log:=d.Log) (e:=⟨n,b,m⟩) (by omega);have hq:(i,j)=(lg,z):=Option.some.inj (R.symm.trans e1);obtain⟨rfl,rfl⟩:=Prod.mk.inj hq
 have I:Ai d ⟨[[101,110,116,101,114],a,b,c],[0,n,0,m],a7,a7⟩=if (!(j==0)) then au (([]:List (List UInt8)),j,(Bp.mk d.Stars d.Estimates i)) else (FH i b).bind fun y=>(JI y.1).bind fun v=>(BJ v).bind fun t=>au ([t],y.2,(Bp.mk d.Stars d.Estimates i)):=by
  unfold Ai Ct;rw[show AU 0 ([[101,110,116,101,114],a,b,c]:List (List UInt8)).length=ax from rfl,AB,if_neg (by exact nF),if_neg (by exact nF),if_pos (by rfl),AB,if_neg (by exact nF),if_neg (by exact nF)];simp only[av,a6];rw[show AU 1 ([0,n,0,m]:List Int).length=ax from rfl,AB,show AU 2 ([[101,110,116,101,114],a,b,c]:List (List UInt8)).length=ax from rfl,AB,show AU 3 ([0,n,0,m]:List Int).length=ax from rfl,AB,R];simp only[Ms,b5];cases (j==0) with
  | false=>rfl
  | true=>
   cases FH i b with
   | none=>rfl
   | some y=>
    cases hs:JI y.1 with
    | none=>simp[hs]
    | some v=>cases ht:BJ v<;>simp[hs,ht]
 have J:Up ⟨d,o,[n,m],[b],a7⟩ [101,110,116,101,114]=enter ⟨d,o,[n,m],[b],a7⟩:=by
  unfold Up;rw[if_neg (by exact nF),if_neg (by exact nF),if_neg (by exact nF),if_neg (by exact nF),if_pos (by rfl)]
 unfold Ra;rw[I,J];unfold enter;rw[show (be (1<=([b]:List (List UInt8)).length)&&be (2<=([n,m]:List Int).length))=ax from rfl,AB];simp only[av,a6];rw[f1,b5]
 by_cases C:j=0
 ·subst C;obtain⟨p,hn⟩:=ok rfl;obtain⟨vs,v1,v2,v3⟩:=mE p hn;obtain⟨v,P,s2⟩:=uz (l:=vs) (by omega);obtain⟨t,U,T,t3⟩:=PW s2;refine⟨[t],0,⟨d.Stars,d.Estimates,i⟩,?_,MB (by omega),fun _=>⟨hd.gs,hd.ls,hd.ge,hd.le,p⟩,?_⟩
  ·rw[if_neg (by exact nF),v1,b5,P,b5,U];rfl
  ·rw[KX,b5,if_neg (by exact nF)];simp only[av,a6];rw[v2,b5,vA,P,b5,T,b5,show be (1<=([b]:List (List UInt8)).length)=ax from rfl,AB];exact⟨_,Pf (by simp only;omega) t,.inl ⟨rfl,rfl,rfl⟩⟩
 ·refine⟨[],j,⟨d.Stars,d.Estimates,i⟩,by rw[if_pos (by simpa using C)],⟨by simp,by simp⟩,fun h=>absurd h C,?_⟩;exact Ka (by simp only;omega) C rfl rfl _ fun s=>rfl
theorem tu(a:List UInt8):Ra d o ⟨[[108,97,115,116],a],[0,0],a7,a7⟩ [108,97,115,116] ⟨d,o,[],[a],a7⟩:=by
 have p:=hd.le;obtain⟨e,z,T,R,P,J,I,C⟩:=mL (l:=d.Estimates) (by omega) a;obtain⟨t,j,U,t3⟩:=wd J I C;refine⟨[t],z,d,?_,MB (by omega),fun _=>hd,?_⟩
 ·unfold Ai;rw[show AU 0 ([[108,97,115,116],a]:List (List UInt8)).length=ax from rfl,AB,if_neg (by exact nF),if_neg (by exact nF),if_neg (by exact nF),if_neg (by exact nF),if_neg (by exact nF),if_neg (by exact nF),if_neg (by exact nF),if_pos (by rfl),show AU 1 ([[108,97,115,116],a]:List (List UInt8)).length=ax from rfl,AB];simp only[av,a6];rw[T,b5,j,b5,Ms];rfl
 ·unfold Up last;rw[if_neg (by exact nF),if_neg (by exact nF),if_pos (by rfl),show be (1<=([a]:List (List UInt8)).length)=ax from rfl,AB];simp only[a6];rw[R,b5]
  by_cases i:z=0
  ·subst i;rw[KX,b5,if_neg (by exact nF)];simp only;rw[t3 (P rfl),b5,decide_eq_true (by simp),decide_eq_true (by simp;omega),bR,AB,b4,c7,cb,List.take_left];exact⟨_,Pf (by simp only;omega) t,.inl ⟨rfl,rfl,rfl⟩⟩
  ·exact Ka (by simp only;omega) i rfl rfl _ fun s=>rfl
theorem nl(a b:List UInt8)(n m:Int):Ra d o ⟨[[112,97,105,114,115],a,b],[0,n,m],a7,a7⟩ [112,97,105,114,115] ⟨d,o,[n,m],[],a7⟩:=by
 have i:=hd.le;obtain⟨ps,z,p,J⟩:=nJ i n m;have j:=vz hd.ge i n m;rw[p] at j;obtain⟨t,C,I,t3⟩:=Vb (s:=⟨d,o,[n,m],[],a7⟩) ho (n:=(ps.length:Int)) (z:=z) ⟨by omega,by omega⟩;refine⟨[t],z,d,?_,MB (by omega),fun _=>hd,?_⟩
 ·unfold Ai Ga;rw[show AU 0 ([[112,97,105,114,115],a,b]:List (List UInt8)).length=ax from rfl,AB,if_neg (by exact nF),if_neg (by exact nF),if_neg (by exact nF),if_neg (by exact nF),if_neg (by exact nF),if_neg (by exact nF),if_neg (by exact nF),if_neg (by exact nF),if_pos (by rfl),show AU 1 ([0,n,m]:List Int).length=ax from rfl,AB,show AU 2 ([0,n,m]:List Int).length=ax from rfl,AB];simp only[av,a6];rw[p,b5,b5,C,b5,Ms];rfl
 ·unfold Up;rw[if_neg (by exact nF),if_neg (by exact nF),if_neg (by exact nF),if_pos (by rfl),show be (2<=([n,m]:List Int).length)=ax from rfl,AB];simp only[av,a6];rw[j,b5];exact t3
theorem xT:Ra d o ⟨[[108,111,103]],[0],a7,a7⟩ [108,111,103] ⟨d,o,[],[],a7⟩:=by
 have i:=hd.lo.code;have U:=hd.lo.len;obtain⟨es,e1,C,q2⟩:=VH (log:=d.Log) (by omega);obtain⟨r,e2,p⟩:=TG (log:=d.Log) (by omega);obtain rfl:=C i;obtain rfl:=p i;obtain⟨b1,b2,b3⟩:=Xt i;have j:∀ e∈(Dw d.Log).1,JY e=true:=(Qv d.Log).ok
 obtain⟨out,P,J,I⟩:=Wq (s:=⟨d,o,[],[],a7⟩) ho (l:=(Dw d.Log).1.map Hx) (by simpa using b3) fun x R=>by
  obtain⟨e,he,rfl⟩:=cI.1 R;have:=Lo (j e he);omega
 refine⟨out,0,d,?_,J,fun _=>hd,?_⟩
 ·unfold Ai;rw[show AU 0 ([[108,111,103]]:List (List UInt8)).length=ax from rfl,AB,if_neg (by exact nF),if_neg (by exact nF),if_neg (by exact nF),if_neg (by exact nF),if_neg (by exact nF),if_neg (by exact nF),if_neg (by exact nF),if_neg (by exact nF),if_neg (by exact nF),e1,b5];simp only;rw[AAV d _ j (by omega),b5,P,b5,i]
 ·unfold Up log;rw[if_neg (by exact nF),if_neg (by exact nF),if_neg (by exact nF),if_neg (by exact nF),if_neg (by exact nF),if_pos (by rfl),e2,b5];have T:(VY d.Log (Dw d.Log)).list_=(Dw d.Log).1:=rfl;simp only[T];rw[Ld (by omega),AB,pg _ _ j (by simp;omega),b5,bX,I];exact⟨_,rfl,.inl ⟨rfl,rfl,rfl⟩⟩
theorem nr(a:List UInt8):Ra d o ⟨[[99,117,114,118,101],a],[0,0],a7,a7⟩ [99,117,114,118,101] ⟨d,o,[],[a],a7⟩:=by
 have aa:=hd.le;obtain⟨c,z,e1,e2,l1,j⟩:=NE (l:=d.Estimates) (by omega) a
 have C:Ai d ⟨[[99,117,114,118,101],a],[0,0],a7,a7⟩=if (!(z==0)) then au (([]:List (List UInt8)),z,d) else (Ho (c.map ptL)).bind fun y=>au (y,0,d):=by
  unfold Ai CD;rw[show AU 0 ([[99,117,114,118,101],a]:List (List UInt8)).length=ax from rfl,AB,if_neg (by exact nF),if_neg (by exact nF),if_neg (by exact nF),if_pos (by rfl),show AU 1 ([[99,117,114,118,101],a]:List (List UInt8)).length=ax from rfl,AB];simp only[av,a6];rw[e1,b5];simp only[AB];cases (z==0) with
  | false=>rfl
  | true=>
   simp only[a',ct,if_false];rw[if_neg (by exact nF),if_neg (by exact nF),if_neg (by exact nF),uI j (by omega),b5];cases Ho (c.map ptL)<;>rfl
 have I:Up ⟨d,o,[],[a],a7⟩ [99,117,114,118,101]=RX ⟨d,o,[],[a],a7⟩ [99,117,114,118,101]:=by
  unfold Up;rw[if_neg (by exact nF),if_neg (by exact nF),if_neg (by exact nF),if_neg (by exact nF),if_neg (by exact nF),if_neg (by exact nF)]
 unfold Ra;rw[C,I];unfold RX;rw[show be (1<=([a]:List (List UInt8)).length)=ax from rfl,AB];simp only[a6];rw[e2,b5]
 by_cases i:z=0
 ·subst i
  obtain⟨out,R,P,J⟩:=Wq (s:=⟨d,o,[],[a],a7⟩) ho (l:=c.map ptL) (by rw[df];omega) fun x T=>by
   obtain⟨p,U,rfl⟩:=cI.1 T;exact (AFs (j p U)).2.2.2
  refine⟨out,0,d,by rw[if_neg (by exact nF),R];rfl,P,fun _=>hd,?_⟩;rw[KX,b5,if_neg (by exact nF)];simp only;rw[if_pos (by rfl),Ld (by omega),AB];unfold curve;rw[eh c [] j (by simp;omega),b5,bX,J];exact⟨_,rfl,.inl ⟨rfl,rfl,rfl⟩⟩
 ·refine⟨[],z,d,by rw[if_pos (by simpa using i)],⟨by simp,by simp⟩,fun h=>absurd h i,?_⟩;exact Ka (by simp only;omega) i rfl rfl _ fun s=>rfl
theorem xV(a:List UInt8):Ra d o ⟨[[97,109,112],a],[0,0],a7,a7⟩ [97,109,112] ⟨d,o,[],[a],a7⟩:=by
 have I:=hd.le;obtain⟨c,z,T,R,l1,p1⟩:=NE (l:=d.Estimates) (by omega) a;obtain⟨v,y,P,J,r1⟩:=bw (c:=c) (by omega);obtain⟨t,C,U,t3⟩:=Vb (s:=⟨d,o,[],[a],a7⟩) ho (n:=v) (z:=y) r1
 have j:Ai d ⟨[[97,109,112],a],[0,0],a7,a7⟩=if (!(z==0)) then au (([]:List (List UInt8)),z,d) else au ([t],y,d):=by
  unfold Ai CD;rw[show AU 0 ([[97,109,112],a]:List (List UInt8)).length=ax from rfl,AB,if_neg (by exact nF),if_neg (by exact nF),if_neg (by exact nF),if_neg (by exact nF),if_pos (by rfl),show AU 1 ([[97,109,112],a]:List (List UInt8)).length=ax from rfl,AB];simp only[av,a6];rw[T,b5];simp only[AB];cases (z==0) with
  | false=>rfl
  | true=>
   simp only[a',ct,if_false];rw[if_pos (by rfl),P,b5,C,b5,Ms];rfl
 have p:Up ⟨d,o,[],[a],a7⟩ [97,109,112]=RX ⟨d,o,[],[a],a7⟩ [97,109,112]:=by
  unfold Up;rw[if_neg (by exact nF),if_neg (by exact nF),if_neg (by exact nF),if_neg (by exact nF),if_neg (by exact nF),if_neg (by exact nF)]
 unfold Ra;rw[j,p];unfold RX;rw[show be (1<=([a]:List (List UInt8)).length)=ax from rfl,AB];simp only[a6];rw[R,b5]
 by_cases i:z=0
 ·subst i;refine⟨[t],y,d,by rw[if_neg (by exact nF)],MB (by omega),fun _=>hd,?_⟩;rw[KX,b5,if_neg (by exact nF)];simp only;rw[if_neg (by exact nF),if_pos (by rfl),J,b5];exact t3
 ·refine⟨[],z,d,by rw[if_pos (by simpa using i)],⟨by simp,by simp⟩,fun h=>absurd h i,?_⟩;exact Ka (by simp only;omega) i rfl rfl _ fun s=>rfl
theorem tw(a b j e:List UInt8)(n m k:Int):Ra d o ⟨[[98,101,115,116],a,b,j,e],[0,0,n,m,k],a7,a7⟩ [98,101,115,116] ⟨d,o,[n,m,k],[a],a7⟩:=by
 have J:=hd.le;obtain⟨c,z,U,T,l1,p1⟩:=NE (l:=d.Estimates) (by omega) a;obtain⟨v,y,R,P,r1⟩:=Xe (c:=c) (x:=⟨n,m,k⟩) (by omega);obtain⟨t,I,t2,t3⟩:=Vb (s:=⟨d,o,[n,m,k],[a],a7⟩) ho (n:=v) (z:=y) r1
 have p:Ai d ⟨[[98,101,115,116],a,b,j,e],[0,0,n,m,k],a7,a7⟩=if (!(z==0)) then au (([]:List (List UInt8)),z,d) else au ([t],y,d):=by
  unfold Ai CD;rw[show AU 0 ([[98,101,115,116],a,b,j,e]:List (List UInt8)).length=ax from rfl,AB,if_neg (by exact nF),if_neg (by exact nF),if_neg (by exact nF),if_neg (by exact nF),if_neg (by exact nF),if_pos (by rfl),show AU 1 ([[98,101,115,116],a,b,j,e]:List (List UInt8)).length=ax from rfl,AB];simp only[av,a6];rw[U,b5];simp only[AB];cases (z==0) with
  | false=>rfl
  | true=>
   simp only[a',ct,if_false];rw[if_neg (by exact nF),if_pos (by rfl),show AU 2 ([0,0,n,m,k]:List Int).length=ax from rfl,AB,show AU 3 ([0,0,n,m,k]:List Int).length=ax from rfl,AB,show AU 4 ([0,0,n,m,k]:List Int).length=ax from rfl,AB,R,b5,I,b5,Ms];rfl
 have C:Up ⟨d,o,[n,m,k],[a],a7⟩ [98,101,115,116]=RX ⟨d,o,[n,m,k],[a],a7⟩ [98,101,115,116]:=by
  unfold Up;rw[if_neg (by exact nF),if_neg (by exact nF),if_neg (by exact nF),if_neg (by exact nF),if_neg (by exact nF),if_neg (by exact nF)]
 unfold Ra;rw[p,C];unfold RX;rw[show be (1<=([a]:List (List UInt8)).length)=ax from rfl,AB];simp only[a6];rw[T,b5]
 by_cases i:z=0
 ·subst i;refine⟨[t],y,d,by rw[if_neg (by exact nF)],MB (by omega),fun _=>hd,?_⟩;rw[KX,b5,if_neg (by exact nF)];simp only;rw[if_neg (by exact nF),if_neg (by exact nF),if_pos (by rfl),show be (3<=([n,m,k]:List Int).length)=ax from rfl,AB];simp only[av,a6];rw[P,b5];exact t3
 ·refine⟨[],z,d,by rw[if_pos (by simpa using i)],⟨by simp,by simp⟩,fun h=>absurd h i,?_⟩;exact Ka (by simp only;omega) i rfl rfl _ fun s=>rfl
theorem tv(a b:List UInt8)(n:Int):Ra d o ⟨[[102,111,108,100],a,b],[0,0,n],a7,a7⟩ [102,111,108,100] ⟨d,o,[n],[a],a7⟩:=by
 have aj:=hd.le;obtain⟨c,z,e1,e2,l1,p1⟩:=NE (l:=d.Estimates) (by omega) a;obtain⟨q,y,f1,f2,q1,q2⟩:=bF (e:=⟨0,n⟩) (c:=c) l1;have U:∀ x∈q,SD x:=fun x hx=>by have:=q2 x hx;exact⟨by omega,by omega⟩
 obtain⟨j1,j2⟩:=tQ q1 U;obtain⟨t,p⟩:∃ t,t=if q=[] then ([45]:List UInt8) else bI (q.map bS) [32]:=⟨_,rfl⟩
 have C:t.length<=5000:=by
  rw[p];split
  ·simp
  ·omega
 have P:Ai d ⟨[[102,111,108,100],a,b],[0,0,n],a7,a7⟩=if (!(z==0)) then au (([]:List (List UInt8)),z,d) else au ([t],y,d):=by
  unfold Ai CD;rw[show AU 0 ([[102,111,108,100],a,b]:List (List UInt8)).length=ax from rfl,AB,if_neg (by exact nF),if_neg (by exact nF),if_neg (by exact nF),if_neg (by exact nF),if_neg (by exact nF),if_neg (by exact nF),if_pos (by rfl),show AU 1 ([[102,111,108,100],a,b]:List (List UInt8)).length=ax from rfl,AB];simp only[av,a6];rw[e1,b5];simp only[AB];cases (z==0) with
  | false=>rfl
  | true=>
   simp only[a',ct,if_false];rw[if_neg (by exact nF),if_neg (by exact nF),if_pos (by rfl),show AU 2 ([0,0,n]:List Int).length=ax from rfl,AB,f1,b5];simp only
   by_cases i:q=[]
   ·rw[if_pos (by simp[i]),Ms,p,if_pos i];rfl
   ·have J:((q.length:Int)==0)=a7:=by
     have:=c'.2 i;rw[beq_eq_false_iff_ne];omega
    rw[J,if_neg (by exact nF),j1,b5,Ms,p,if_neg i];rfl
 have R:Up ⟨d,o,[n],[a],a7⟩ [102,111,108,100]=RX ⟨d,o,[n],[a],a7⟩ [102,111,108,100]:=by
  unfold Up;rw[if_neg (by exact nF),if_neg (by exact nF),if_neg (by exact nF),if_neg (by exact nF),if_neg (by exact nF),if_neg (by exact nF)]
 unfold Ra;rw[P,R];unfold RX;rw[show be (1<=([a]:List (List UInt8)).length)=ax from rfl,AB];simp only[a6];rw[e2,b5]
 by_cases j:z=0
 ·subst j;refine⟨[t],y,d,by rw[if_neg (by exact nF)],MB C,fun _=>hd,?_⟩;rw[KX,b5,if_neg (by exact nF)];simp only;rw[if_neg (by exact nF),if_neg (by exact nF),if_neg (by exact nF)];unfold xP;rw[show be (1<=([n]:List Int).length)=ax from rfl,AB];simp only[a6];rw[f2,b5]
  by_cases T:y=0
  ·subst T;rw[KX,b5,if_neg (by exact nF)];simp only;rw[Ld (by omega),AB,lC q 0 [] U (by simp;omega),b5]
   have I:(if (if q=[] then ([]:List UInt8) else (if 0<0 then ([]:List UInt8)++[32] else [])++bI (q.map bS) [32])=[] then ([45]:List UInt8) else if q=[] then [] else (if 0<0 then ([]:List UInt8)++[32] else [])++bI (q.map bS) [32])=t:=by
    rw[p]
    by_cases i:q=[]
    ·simp[i]
    ·have:=AAf i;simp[i,this]
   rw[I];exact⟨_,Pf (by simp only;omega) t,.inl ⟨rfl,rfl,rfl⟩⟩
  ·exact Ka (by simp only;omega) T rfl rfl _ fun s=>rfl
 ·refine⟨[],z,d,by rw[if_pos (by simpa using j)],⟨by simp,by simp⟩,fun h=>absurd h j,?_⟩;exact Ka (by simp only;omega) j rfl rfl _ fun s=>rfl
end
def Nm:List (List UInt8):=[[97,109,112],[98,101,115,116],[99,117,114,118,101],[101,110,116,101,114],[101,115,116],[102,111,108,100],[108,97,115,116],[108,111,103],[112,97,105,114,115],[115,116,97,114]]
theorem XL{l:List (List UInt8)}(I:l.length<=1000)(s:List UInt8):Bj l s=au (be (s∈l)):=by
 unfold Bj DW
 rw[Lq (step:=CJ l s (l.length:Int)) (fun i=>s==l.getD i a8) (fun j=>(j:Int)) l.length (fun i hi=>by
  simp only[CJ,bs,hi,decide_true,if_true,Af,AB,dX,(Z4 i)];cases (s==l.getD i a8)<;>rfl) (by simp[CJ])]
 cases p:(List.range l.length).find? (fun i=>s==l.getD i a8) with
 | none=>
  rw[List.find?_eq_none] at p
  have:s ∉ l:=fun h=>by
   obtain⟨i,hi,rfl⟩:=List.getElem_of_mem h;exact p i (by simpa using hi) (by rw[Cm hi];simp)
  rw[decide_eq_false this];rfl
 | some j=>
  rw[List.find?_range_eq_some] at p;have C:j<l.length:=by simpa using p.2.1
  have:s∈l:=by
   have e:s=l.getD j a8:=by simpa using p.1
   rw[e];exact Id C a8
  rw[decide_eq_true this];simp
theorem AAz{w:List UInt8}(h:w ∉ Nm):Bu w=au [45]:=by
 simp only[Nm,ca,cf,or_false,not_or] at h;obtain⟨T,h2,R,P,J,I,C,p,j,i⟩:=h;unfold Bu;simp only[beq_eq_false_iff_ne.2 T,beq_eq_false_iff_ne.2 h2,beq_eq_false_iff_ne.2 R,beq_eq_false_iff_ne.2 P,beq_eq_false_iff_ne.2 J,beq_eq_false_iff_ne.2 I,beq_eq_false_iff_ne.2 C,beq_eq_false_iff_ne.2 p,beq_eq_false_iff_ne.2 j,beq_eq_false_iff_ne.2 i,ct,if_false]
def ABx(d:Bp)(o:List (List UInt8))(line:List UInt8):Prop := ∃ d' out ok,GR d line=au (d',out,ok)∧mG out∧(ok=ax->ib d') ∧ ∀ nu i j,∃ s',zs ⟨d,o,nu,i,j⟩ line=au (ok,s')∧((ok=ax∧s'.d=d'∧s'.out=o++out)∨(ok=a7∧s'.d=d∧s'.out=o))
theorem AEW{d:Bp}(hd:ib d):CG d.Stars=au d.Stars∧Bb d.Estimates=au d.Estimates :=
 ⟨lW (by have:=hd.ls;omega),lX (by have:=hd.le;omega)⟩
theorem pj{d:Bp}{o:List (List UInt8)}{line:List UInt8}(hd:ib d){c:EM}(i:CV line=au (c,a7))(h2:∀ s,zs s line=au (a7,s)):ABx d o line:=by
 obtain⟨k1,k2⟩:=AEW hd;refine⟨⟨[],[],[]⟩,[],a7,?_,⟨by simp,by simp⟩,fun h=>(by cases h),fun nu j p=>⟨_,h2 _,.inr ⟨rfl,rfl,rfl⟩⟩⟩;unfold GR;rw[k1,b5,k2,b5,i,b5];rfl
theorem MC{d:Bp}{o:List (List UInt8)}{line:List UInt8}(hd:ib d)(ho:o.length<=1000000)(hl:line.length<=1048576){kinds form w:List UInt8}(hw:(Am 32 line).getD 0 a8=w)(hm:w∈Nm)(hk:Bg w=au kinds)(hf:Bu w=au form)(b0:form.length=kinds.length)(aa:(form==[45])=a7)
  (hb:∀ args,args.length=kinds.length->(∀ p∈args,p.length<=1048576)->∃ i f s1,gx kinds form args i f d o s1∧Ra d o ⟨w::args,i,f,a7⟩ w s1):ABx d o line:=by
 obtain⟨l1,l2⟩:=LK 32 line [];have hp:=Ly 32 line [];have l1:1<=(Am 32 line).length:=l1;have l2:(Am 32 line).length<=line.length+1:=l2;have hp:∀ p∈Am 32 line,p.length<=1048576:=fun p h=>by have:=hp p h;simp at this;omega
 have a1:=Kz 32 hl;have a2:=TP (c:=32) (s:=line) (by omega)
 have U:CV line=if (!true || !(((Am 32 line).length:Int)==(kinds.length:Int)+1)) then au (⟨[],[],a7,a7⟩,a7) else (AX kinds 0 ((Am 32 line).drop 1) (dw (Am 32 line).length 0) a7 a7).bind fun y=>au (⟨Am 32 line,y.1,y.2.1,y.2.2⟩,ax):=by
  unfold CV;rw[a2,b5,decide_eq_true (show 0<(Am 32 line).length by omega),decide_eq_true (show (Am 32 line).length<=1099511627776 by omega),bR,AB,hw,hk,b5,show Gc=au Nm from rfl,b5,XL (by decide),b5,decide_eq_true hm]
 have ab:∀ s,zs s line=if (form==[45] || !((form.length:Int)==((Am 32 line).length:Int)-1)) then au (a7,s) else (Ki form ((Am 32 line).drop 1) { s with nums:=[],texts:=[],faint:=false }).bind fun q=>if !q.1 then (IF q.2 7).bind fun r=>au (ax,r.2) else (Up q.2 w).bind fun s=>au (ax,s):=fun s=>by
  have a0:(Am 32 line).getD 0 []=w:=hw;unfold zs;rw[a1,b5,decide_eq_true (show 0<(Am 32 line).length by omega),Ld (by omega),bR,AB,a0,hf,b5]
 by_cases C:(Am 32 line).length=kinds.length+1
 ·obtain⟨x,args,j⟩:∃ x args,Am 32 line=x::args:=by
   cases hq:Am 32 line with
   | nil=>rw[hq] at l1;simp at l1
   | cons x r=>exact⟨x,r,rfl⟩
  obtain rfl:x=w:=by rw[j] at hw;exact hw
  rw[j] at C hp;have a4:args.length=kinds.length:=by simpa using C
  obtain⟨i,f,s1,⟨wrong,e1,hr⟩,out,z,d',e2,ok,g1,P⟩:=hb args a4 fun p h=>hp p (bN _ h)
  obtain⟨k1,k2⟩:=AEW hd
  have T:CV line=au (⟨x::args,i,f,wrong⟩,ax):=by
   rw[U,if_neg (by rw[j];simp;omega),j,dT,ds,bb,e1];rfl
  have J:∀ s,zs s line=(Ki form args { s with nums:=[],texts:=[],faint:=false }).bind fun q=>if !q.1 then (IF q.2 7).bind fun r=>au (ax,r.2) else (Up q.2 x).bind fun s=>au (ax,s):=fun s=>by
   rw[ab,if_neg (by rw[aa,j];simp;omega),j,dT,ds]
  unfold ABx GR;rw[k1,b5,k2,b5,T,b5];simp only[a',ct,if_false];rcases hr with⟨rfl,s',q1,q2,q3⟩|⟨rfl,q1⟩
  ·obtain⟨n,r1,r2,r3⟩:=UA (s:=s') (by rw[q3];omega) (z:=7) (by decide);simp only[a',ct,if_false];rw[if_pos (by decide),r1,b5,Au (by simp;omega),AB];refine⟨d,[lP n],ax,rfl,MB (by simp[lP];omega),fun _=>hd,fun nu R fa=>?_⟩;rw[J,q1,b5];simp only[dz,if_true];rw[r3];exact⟨_,rfl,.inl ⟨trivial,q2,by rw[q3]⟩⟩
  ·simp only[dz,if_true];rw[show (Bp.mk d.Stars d.Estimates d.Log)=d from rfl,e2,b5]
   have I:∀ nu R fa,zs ⟨d,o,nu,R,fa⟩ line=(Up s1 x).bind fun s=>au (ax,s):=fun nu R fa=>by
    rw[J,q1,b5];rfl
   obtain⟨s',p1,a3⟩:=P;rcases a3 with⟨rfl,p2,p3⟩|⟨hz,p2,n,p3,p4⟩
   ·simp only[beq_self_eq_true,a',ct,if_false];exact⟨d',out,ax,rfl,ok,fun _=>g1 rfl,fun nu R fa=>⟨s',by rw[I,p1];rfl,.inl ⟨rfl,p2,p3⟩⟩⟩
   ·obtain⟨m,c1,_,c3⟩:=Sj z;obtain rfl:m=n:=Option.some.inj (c1.symm.trans p3);have ay:(!(z==0))=ax:=by simpa using hz
    simp only;rw[if_pos ay,c1,b5,Au (by simp;omega),AB];exact⟨d,[lP m],ax,rfl,MB (by simp[lP];omega),fun _=>hd,fun nu R fa=>⟨s',by rw[I,p1];rfl,.inl ⟨rfl,p2,p4⟩⟩⟩
 ·refine pj hd (c:=⟨[],[],a7,a7⟩) ?_ fun s=>?_
  ·rw[U,if_pos (by simp;omega)]
  ·rw[ab,if_pos (by rw[aa];simp;omega)]
theorem tK{d:Bp}{o:List (List UInt8)}{line:List UInt8}(hd:ib d)(ho:o.length<=1000000)(I:line.length<=1048576):ABx d o line:=by
 by_cases hm:(Am 32 line).getD 0 a8∈Nm
 ·have J:=hm;simp only[Nm,ca,cf,or_false] at J;rcases J with h|h|h|h|h|h|h|h|h|h
  ·refine MC hd ho I h (h▸hm) (kinds:=[119]) (form:=[120]) (by unfold Bg;rfl) (by unfold Bu;rfl) rfl rfl fun args p i=>?_
   match args,p with
   | [a],_=>exact⟨_,_,_,mt (i a (by simp)),xV hd ho a⟩
  ·refine MC hd ho I h (h▸hm) (kinds:=[119,110,110,110]) (form:=[120,110,110,110]) (by unfold Bg;rfl) (by unfold Bu;rfl) rfl rfl fun args p i=>?_
   match args,p with
   | [a,b,c,e],_=>
    obtain⟨n,m,k,C⟩:=sO (d:=d) (o:=o) (i a (by simp)) (i b (by simp)) (i c (by simp)) (i e (by simp));exact⟨_,_,_,C,tw hd ho a b c e n m k⟩
  ·refine MC hd ho I h (h▸hm) (kinds:=[119]) (form:=[120]) (by unfold Bg;rfl) (by unfold Bu;rfl) rfl rfl fun args p i=>?_
   match args,p with
   | [a],_=>exact⟨_,_,_,mt (i a (by simp)),nr hd ho a⟩
  ·refine MC hd ho I h (h▸hm) (kinds:=[110,119,110]) (form:=[110,120,110]) (by unfold Bg;rfl) (by unfold Bu;rfl) rfl rfl fun args p i=>?_
   match args,p with
   | [a,b,c],_=>
    obtain⟨n,m,C⟩:=vW (d:=d) (o:=o) (i a (by simp)) (i b (by simp)) (i c (by simp));exact⟨_,_,_,C,nq hd ho a b c n m⟩
  ·refine MC hd ho I h (h▸hm) (kinds:=[110,119,119,102]) (form:=[110,120,120,101]) (by unfold Bg;rfl) (by unfold Bu;rfl) rfl rfl fun args p i=>?_
   match args,p with
   | [a,b,c,e],_=>
    obtain⟨n,m,f,C⟩:=vX (d:=d) (o:=o) (i a (by simp)) (i b (by simp)) (i c (by simp)) (i e (by simp));exact⟨_,_,_,C,xU hd ho a b c e n m f⟩
  ·refine MC hd ho I h (h▸hm) (kinds:=[119,110]) (form:=[120,110]) (by unfold Bg;rfl) (by unfold Bu;rfl) rfl rfl fun args p i=>?_
   match args,p with
   | [a,b],_=>
    obtain⟨n,C⟩:=AAC (d:=d) (o:=o) (i a (by simp)) (i b (by simp));exact⟨_,_,_,C,tv hd ho a b n⟩
  ·refine MC hd ho I h (h▸hm) (kinds:=[119]) (form:=[120]) (by unfold Bg;rfl) (by unfold Bu;rfl) rfl rfl fun args p i=>?_
   match args,p with
   | [a],_=>exact⟨_,_,_,mt (i a (by simp)),tu hd ho a⟩
  ·refine MC hd ho I h (h▸hm) (kinds:=[]) (form:=[]) (by unfold Bg;rfl) (by unfold Bu;rfl) rfl rfl fun args p i=>?_
   match args,p with
   | [],_=>exact⟨_,_,_,AFq,xT hd ho⟩
  ·refine MC hd ho I h (h▸hm) (kinds:=[110,110]) (form:=[110,110]) (by unfold Bg;rfl) (by unfold Bu;rfl) rfl rfl fun args p i=>?_
   match args,p with
   | [a,b],_=>
    obtain⟨n,m,C⟩:=AAD (d:=d) (o:=o) (i a (by simp)) (i b (by simp));exact⟨_,_,_,C,nl hd ho a b n m⟩
  ·refine MC hd ho I h (h▸hm) (kinds:=[119,110,110,109,109]) (form:=[120,110,110,109,109]) (by unfold Bg;rfl) (by unfold Bu;rfl) rfl rfl fun args p i=>?_
   match args,p with
   | [a,b,c,e,g],_=>
    obtain⟨n,m,k,j,C⟩:=sP (d:=d) (o:=o) (i a (by simp)) (i b (by simp)) (i c (by simp)) (i e (by simp)) (i g (by simp));exact⟨_,_,_,C,tt hd ho a b c e g n m k j⟩
 ·obtain⟨R,P⟩:=LK 32 line [];have R:1<=(Am 32 line).length:=R;have P:(Am 32 line).length<=line.length+1:=P
  obtain⟨kinds,T⟩:∃ k,Bg ((Am 32 line).getD 0 a8)=au k:=by
   unfold Bg
   repeat' (first|exact⟨_,rfl⟩|split)
  refine pj hd (c:=⟨[],[],a7,a7⟩) ?_ fun s=>?_
  ·unfold CV;rw[TP (c:=32) (s:=line) (by omega),b5,decide_eq_true (show 0<(Am 32 line).length by omega),decide_eq_true (show (Am 32 line).length<=1099511627776 by omega),bR,AB,T,b5,show Gc=au Nm from rfl,b5,XL (by decide),b5,decide_eq_false hm];rfl
  ·unfold zs;rw[Kz 32 I,b5,decide_eq_true (show 0<(Am 32 line).length by omega),Ld (by omega),bR,AB,show (Am 32 line).getD 0 []=(Am 32 line).getD 0 a8 from rfl,AAz hm,b5];rfl
def fQ(l:List (List UInt8)):List (List UInt8):=if l.getD (l.length-1) []==[] then l.take (l.length-1) else l
theorem rZ(x:List UInt8){l:List (List UInt8)}(h:l≠[]):fQ (x::l)=x::fQ l:=by
 obtain⟨n,i⟩:∃ n,l.length=n+1:=⟨l.length-1,by have:=c'.2 h;omega⟩;unfold fQ;rw[bb,cb,i,cb,av,List.take_succ_cons];split<;>rfl
theorem dL(c:UInt8):Am c []=[[]]:=rfl
theorem dY{text:List UInt8}(h:text≠[]):∃ rest,(c8 text [10]).1.length<=text.length∧(c8 text [10]).2.1=rest∧rest.length<=text.length∧fQ (Am 10 text)=(c8 text [10]).1::fQ (Am 10 rest):=by
 rcases JR 10 text with⟨_,q⟩|⟨a,b,rfl,q,_⟩
 ·rw[TS q];refine⟨[],e6 _,rfl,by simp,?_⟩;unfold Am;rw[MO q,bX];have e:(text==([]:List UInt8))=a7:=by rw[beq_eq_false_iff_ne];exact h
  show fQ [text]=text::fQ [[]];unfold fQ;simp[e,h]
 ·rw[QC q];refine⟨b,by simp,rfl,by simp;omega,?_⟩;unfold Am;rw[Ip q,bX,rZ a (Qn 10 b [])]
theorem lT:∀ {l:List (List UInt8)},(∀ s∈l,s.length<=5000)->(Dx l).length<=5001*l.length
 | [],_=>by simp[Dx]
 | x::r,h=>by
  have i:=h x (by simp);have h2:=lT (l:=r) fun s hs=>h s (bN _ hs)
  simp only[Dx,b4,bb];omega
theorem AAJ{l:List (List UInt8)}(h:mG l):(Dx l).length<=25005000:=by
 have:=lT h.2;have:=h.1;omega
theorem Le:∀ a b:List (List UInt8),Dx (a++b)=Dx a++Dx b
 | [],b=>rfl
 | x::r,b=>by show x++10::Dx (r++b)=(x++10::Dx r)++Dx b;rw[Le r b];simp
theorem YX:∀ (k:Nat) (text:List UInt8) (d:Bp) (o i:List (List UInt8)) (nu:List Int) (p:Bool),k<=60->ib d->o.length<=5000*(60-k)->(Dx o).length<=26000000*(60-k)->text.length<=1048576 ->
  ∃ s',Bt k text d (Dx o)=au (Dx s'.out)∧l28.runL (60-k) (fQ (Am 10 text)) ⟨d,o,nu,i,p⟩=au s'∧s'.out.length<=305000∧(Dx s'.out).length<=1600000000
 | 0,text,d,o,i,nu,p,hk,hd,h1,h2,h3=>by
  by_cases j:text=[]
  ·subst j;exact⟨⟨d,o,nu,i,p⟩,by rw[Bt,if_pos rfl],by rw[dL];rfl,by simp only;omega,by simp only;omega⟩
  ·obtain⟨rest,_,_,_,e⟩:=dY j;obtain⟨n,c1,c2,c3⟩:=UA (s:=⟨d,o,nu,i,p⟩) (by simp only;omega) (z:=5) (by decide);have hn:DM 5=au [102,117,108,108]:=by unfold DM;rfl
   obtain rfl:[102,117,108,108]=n:=Option.some.inj (hn.symm.trans c1);refine⟨{ (⟨d,o,nu,i,p⟩:FL) with out:=o++[lP [102,117,108,108]] },?_,?_,by simp;omega,by simp only;rw[Le];simp[Dx,lP];omega⟩
   ·rw[Bt,if_neg j,decide_eq_true (by omega),AB,Le];rfl
   ·rw[e,l28.runL,if_pos (by omega),c3];rfl
 | k+1,text,d,o,i,nu,p,hk,hd,h1,h2,h3=>by
  by_cases j:text=[]
  ·subst j;exact⟨⟨d,o,nu,i,p⟩,by rw[Bt,if_pos rfl],by rw[dL];rfl,by simp only;omega,by simp only;omega⟩
  ·obtain⟨rest,t1,t2,t3,e⟩:=dY j;obtain⟨d',out,ok,e1,I,hg,hs⟩:=tK (d:=d) (o:=o) (line:=(c8 text [10]).1) hd (by omega) (by omega);obtain⟨s',e2,aa⟩:=hs nu i p;have ao:=AAJ I;have ae:=I.1;have hi:60-(k+1)+1=60-k:=by omega
   rcases aa with⟨rfl,U,J⟩|⟨rfl,U,J⟩
   ·have C:(Dx (o++out)).length<=26000000*(60-k):=by rw[Le,b4];omega
    obtain⟨P,r1,r2,T,R⟩:=YX k rest d' (o++out) s'.texts s'.nums s'.faint (by omega) (hg rfl) (by rw[b4];omega) C (by omega);refine⟨P,?_,?_,T,R⟩
    ·rw[Bt,if_neg j,Uk (by omega),b5,e1,b5];simp only[if_true];rw[← Le,decide_eq_true (by omega),decide_eq_true (by omega),bR,AB,t2,r1]
    ·rw[e,l28.runL,if_neg (by omega),e2,b5];simp only[if_true];rw[hi,show s'=⟨d',o++out,s'.nums,s'.texts,s'.faint⟩ from by rw[← U,← J]];exact r2
   ·have C:(Dx (o++[[63]])).length<=26000000*(60-k):=by rw[Le,b4];simp[Dx];omega
    obtain⟨P,r1,r2,T,R⟩:=YX k rest d (o++[[63]]) s'.texts s'.nums s'.faint (by omega) hd (by rw[b4];simp;omega) C (by omega);refine⟨P,?_,?_,T,R⟩
    ·rw[Bt,if_neg j,Uk (by omega),b5,e1,b5];simp only[ct,if_false];rw[← Le,decide_eq_true (by omega),decide_eq_true (by omega),bR,AB,t2,r1]
    ·rw[e,l28.runL,if_neg (by omega),e2,b5];simp only[ct,if_false];rw[hi,Pf (by rw[J];omega),b5,U,J];exact r2
theorem wY{l:List (List UInt8)}(C:l.length<=305000)(h2:(Dx l).length<=1600000000):GE l=au (Dx l):=by
 have:=LH (step:=En l) (fun i=>Dx (l.take i)) l.length (r:=Dx l) (fun i hi=>by
  have e:Dx (l.take (i+1))=Dx (l.take i)++l.getD i a8++[10]:=by
   rw[bo hi,Le,Cm hi];simp[Dx]
  have j:(Dx (l.take (i+1))).length<=(Dx l).length:=by
   have p:Dx l=Dx (l.take (i+1))++Dx (l.drop (i+1)):=by rw[← Le,List.take_append_drop]
   rw[p,b4];omega
  rw[e] at j;simp only[b4,c7] at j;simp only[En,bs,hi,decide_true,if_true,Af,AB,dX,(Z4 i)];rw[Ba (by omega),AB,Ba (by simp only[b4,c7];omega),AB,e]) (by simp[En])
 unfold GE;rw[show AE (En l) (([]:List UInt8),0)=au (Dx l) from this];rfl
theorem zK:ib ⟨[],[],[]⟩:=⟨rfl,by simp,rfl,by simp,[],rfl,trivial,by simp,by simp⟩
theorem gp{text:List UInt8}(h:text.length<=1048576):∃ r,GA text=au r∧runDesk text=au r:=by
 obtain⟨s',J,I,C,p⟩:=YX 60 text ⟨[],[],[]⟩ [] [] [] a7 (by omega) zK (by simp) (by simp[Dx]) h;obtain⟨j,i⟩:=LK 10 text [];have j:1<=(Am 10 text).length:=j;have i:(Am 10 text).length<=text.length+1:=i;refine⟨Dx s'.out,?_,?_⟩
 ·unfold GA;rw[show KJ=au ⟨[],[],[]⟩ from rfl,b5];exact J
 ·unfold runDesk;rw[show Jl=au ⟨[],[],[]⟩ from rfl,b5,Kz 10 h,b5,decide_eq_true (show 0<(Am 10 text).length by omega),Ld (by omega),bR,AB];rw[show l28.runL 0 (if (Am 10 text).getD ((Am 10 text).length-1) []==[] then (Am 10 text).take ((Am 10 text).length-1) else Am 10 text) ⟨⟨[],[],[]⟩,[],[],[],a7⟩=au s' from I,b5];exact wY C p
end Go.Proofs.YtegmpdmpgmpiaaaGreatDoor
namespace Go.Proofs.YtegmpdmpgmpiaaaGreatDoor
open Go Go.RowKit
set_option maxHeartbeats 64000000
noncomputable def Ee (aText:List UInt8):Option Bool :=if (be (1048576<(aText.length:Int))) then au ax else (Hh aText).bind fun j=>(GA aText).bind fun i=>if (!(i==j)) then au a7 else au ax
instance i_c_spec_RunDesk:Sd Tryz.prog 5 Gd:=⟨YU⟩
@[go_sem]theorem Wa{text:List UInt8}(h:(Hh text).isSome=ax):Gd.F [.str text]=⟨ax,.str (gd (Hh text)),[.any]⟩:=cr (fun y=>@Mm text y) h
noncomputable def ACa:Bl:=Aj Tryz.prog Tryz.f3 [0,2,3,4] [] [] []
noncomputable abbrev El:Ar:=Cw [(5,Gd),(6,Ih)] ACa [.bor]
instance sd_laws:Sd Tryz.prog 3 El:=Aq
theorem QZ:CF Tryz.prog 3 El:=sd_laws.s
attribute [local go_sem] Ee in
theorem Qg{aText:List UInt8}(h:(Ee aText).isSome=ax):El.F [.str aText]=⟨ax,.bool (gd (Ee aText)),[.any]⟩:=Cj ACa trivial
theorem Qf:El.modes=[.bor]:=rfl
theorem QO{aText:List UInt8}{i:Bool}(h:Ee aText=au i):El.F [.str aText]=⟨ax,.bool i,[.any]⟩:=by
 have q:=Qg (aText:=aText) (by rw[h];rfl);simp only[h,BA] at q;exact q
theorem kT{aText:List UInt8}:Ee aText=au ax:=by
 unfold Ee
 by_cases h:1048576<(aText.length:Int)
 ·simp[h]
 ·obtain⟨r,j,i⟩:=gp (text:=aText) (by omega);simp[h,j,show Hh aText=au r from i]
end Go.Proofs.YtegmpdmpgmpiaaaGreatDoor
