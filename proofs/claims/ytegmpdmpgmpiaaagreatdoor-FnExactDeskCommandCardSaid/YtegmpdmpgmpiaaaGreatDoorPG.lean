/- Lemmas. No condition. -/
import Derived.Test.YtegmpdmpgmpiaaaGreatDoorPF
open Bool renaming true->cb,eq_iff_iff->cm,not_true->dc,false->dU,true_and->e8,false_or->ef,not_eq_true'->ek,or_true->fx,not_false->hH,and_eq_true_iff->ix,not_eq_false->iS,or_eq_true->j9,false_and->j',and_false->k7,or_false->kc,and_true->ke,true_or->kp,not_and->ks
open Decidable renaming decide->b7
open Go.IntKind renaming i64->bN
open Go.Lib renaming minOf->dT,maxOf->hf
open Go.Proofs.YtegmpdmpgmpiaaaGreatDoor renaming obS->en,tnC->h9,bfT->iR
open Inhabited renaming default->a'
open Int renaming ofNat_lt->cl,mul_ediv_add_emod->eg,emod_lt_of_pos->fi,emod_nonneg->fu,mul_ediv_cancel_left->hO,mul_comm->hV,le_ediv_iff_mul_le->hW,ediv_eq_zero_of_lt->hX,ediv_lt_of_lt_mul->hZ,add_mul_ediv_left->ir,mul_add->iB,ediv_nonneg->jn,mul_nonneg->kb,add_comm->kB,mul_neg->kI,le_refl->kR
open List renaming take_append_drop->bs,length_map->bI,getElem_of_mem->bS,length_eq_zero_iff->bX,append_assoc->b',range->c7,pairwise_cons->cn,length_append->ct,pairwise_append->cw,map->cA,mem_cons->cI,finRange->cS,drop_eq_getElem_cons->d',take_succ_eq_append_getElem->e7,filter_append->e9,nil_append->ea,append_nil->ed,takeWhile_cons_of_pos->eo,length_take->ev,mem_append->eL,mem_singleton->e',length->fa,length_cons->fm,mem_cons_of_mem->fp,takeWhile_cons_of_neg->fy,mem_cons_self->fA,drop_drop->fB,pairwise_iff_getElem->f',filter_cons->gf,take_of_length_le->gk,length_filter_le->gr,mem_filter->hB,length_nil->hC,dropLast_concat_getLast->hE,getElem?_append_right->hG,getElem_append_right->hI,getElem_append_left->hJ,pairwise_singleton->hN,length_eq_one_iff->hQ,getElem?_map->iI,drop_sublist->iN,length_drop->iZ,cons_append->j0,range_zero->j5,map_append->j6,foldl_cons->j7,filter_nil->j8,take_zero->jm,sum_cons->k8,map_cons->k9,mem_map->kf,map_nil->kn
open List.Pairwise renaming nil->ew,sublist->fI
open Nat renaming le_refl->dx,zero_le->gb,lt_or_ge->gn,eq_zero_or_pos->g',add_mul->hz,add_assoc->hM,zero_add->hR,le_trans->hS,sub_self->kA
open Option renaming some->bz,map_some->bR,getD_some->cB,isSome_some->df
open Sum renaming map_inr->et,map_inl->eu,map->ga
set_option linter.defProp false
set_option linter.unnecessarySimpa false
set_option linter.unusedSectionVars false
set_option linter.unusedSimpArgs false
set_option linter.unusedVariables false
open Go.IntKind (i64 u64)
noncomputable section
namespace Go.Proofs.YtegmpdmpgmpiaaaGreatDoor.stab
open Go Go.RowKit
def NO{α:Type}[Inhabited α](cmp:α->α->Option Int)(a b i:Int):((List α)×Int)->Option (((List α)×Int)⊕(List α))
 |(data,j)=>ck (!(b7 (a<j))||AS j data.length)<|ck (!(b7 (a<j))||AS (bN.wrap (j-1)) data.length)<|ck (!(b7 (a<j))||(cmp (data.getD j.toNat a') (data.getD (bN.wrap (j-1)).toNat a')).isSome)<|if((b7 (a<j))&&(b7 (((cmp (data.getD j.toNat a') (data.getD (bN.wrap (j-1)).toNat a')).getD a')<0)))then ck (AS (bN.wrap (j-1)) data.length)<|ck (AS j data.length)<|some (.inl (((data.set j.toNat (data.getD (bN.wrap (j-1)).toNat a')).set ((bN.wrap (j-1)).toNat) (data.getD j.toNat a')),(bN.wrap (j-1))))else bz (.inr data)
def NP{α:Type}[Inhabited α](cmp:α->α->Option Int)(a b:Int):((List α)×Int)->Option (((List α)×Int)⊕(List α))
 |(data,i)=>if(b7 (i<b))then(AE (NO cmp a b i) (data,i)).bind fun j=>bz (.inl (j,(bN.wrap (i+1))))else bz (.inr data)
variable{α:Type}
def om[Inhabited α](cmp:α->α->Option Int)(data:List α)(a b:Int):Option (List α) :=(AE (NP cmp a b) (data,(bN.wrap (a+1)))).bind fun j=>ck (j.length==data.length)<|some j
def PL{α:Type}[Inhabited α](a b n:Int):((List α)×Int)->Option (((List α)×Int)⊕(List α))
 |(data,i)=>if(b7 (i<n))then ck (AS (bN.wrap (b+i)) data.length)<|ck (AS (bN.wrap (a+i)) data.length)<|some (.inl (((data.set ((bN.wrap (a+i)).toNat) (data.getD (bN.wrap (b+i)).toNat a')).set ((bN.wrap (b+i)).toNat) (data.getD (bN.wrap (a+i)).toNat a')),(bN.wrap (i+1))))else bz (.inr data)
def ol[Inhabited α](data:List α)(a b n:Int):Option (List α) :=(AE (PL a b n) (data,0)).bind fun j=>ck (j.length==data.length)<|some j
def NN{α:Type}[Inhabited α](m:Int):((List α)×Int×Int)->Option (((List α)×Int×Int)⊕((List α)×Int))
 |(data,i,j)=>if(!(i==j))then if(b7 (j<i))then(ol data (bN.wrap (m-i)) m j).bind fun I=>bz (.inl (I,(bN.wrap (i-j)),j))else(ol data (bN.wrap (m-i)) (bN.wrap ((bN.wrap (m+j))-i)) i).bind fun C=>bz (.inl (C,i,(bN.wrap (j-i))))else bz (.inr (data,i))
def kh[Inhabited α](data:List α)(a m b:Int):Option (List α) :=(AE (NN m) (data,(bN.wrap (m-a)),(bN.wrap (b-m)))).bind fun j=>(ol j.1 (bN.wrap (m-j.2)) m j.2).bind fun C=>ck (C.length==data.length)<|some C
def RB{α:Type}[Inhabited α](cmp:α->α->Option Int)(data:List α)(a:Int):(Int×Int)->Option ((Int×Int)⊕Int)
 |(i,j)=>if(b7 (i<j))then ck (TS 1)<|ck (AS (hF (i+j)) data.length)<|ck (AS a data.length)<|(cmp (data.getD (hF (i+j)).toNat a') (data.getD a.toNat a')).bind fun C=>if(b7 (C<0))then bz (.inl ((bN.wrap ((hF (i+j))+1)),j))else bz (.inl (i,(hF (i+j))))else bz (.inr i)
def NM{α:Type}[Inhabited α](i:Int):((List α)×Int)->Option (((List α)×Int)⊕(List α))
 |(data,k)=>if(b7 (k<(bN.wrap (i-1))))then ck (AS (bN.wrap (k+1)) data.length)<|ck (AS k data.length)<|some (.inl (((data.set k.toNat (data.getD (bN.wrap (k+1)).toNat a')).set ((bN.wrap (k+1)).toNat) (data.getD k.toNat a')),(bN.wrap (k+1))))else bz (.inr data)
def RA{α:Type}[Inhabited α](cmp:α->α->Option Int)(data:List α)(m:Int):(Int×Int)->Option ((Int×Int)⊕Int)
 |(i,j)=>if(b7 (i<j))then ck (TS 1)<|ck (AS m data.length)<|ck (AS (hF (i+j)) data.length)<|(cmp (data.getD m.toNat a') (data.getD (hF (i+j)).toNat a')).bind fun C=>if(!(b7 (C<0)))then bz (.inl ((bN.wrap ((hF (i+j))+1)),j))else bz (.inl (i,(hF (i+j))))else bz (.inr i)
def NL{α:Type}[Inhabited α](i:Int):((List α)×Int)->Option (((List α)×Int)⊕(List α))
 |(data,k)=>if(b7 (i<k))then ck (AS (bN.wrap (k-1)) data.length)<|ck (AS k data.length)<|some (.inl (((data.set k.toNat (data.getD (bN.wrap (k-1)).toNat a')).set ((bN.wrap (k-1)).toNat) (data.getD k.toNat a')),(bN.wrap (k-1))))else bz (.inr data)
def OC{α:Type}[Inhabited α](cmp:α->α->Option Int)(data:List α)(a m b C n p:Int):(Int×Int)->Option ((Int×Int)⊕Int)
 |(start,r)=>if(b7 (start<r))then ck (TS 1)<|ck (AS (bN.wrap (p-(hF (start+r)))) data.length)<|ck (AS (hF (start+r)) data.length)<|(cmp (data.getD (bN.wrap (p-(hF (start+r)))).toNat a') (data.getD (hF (start+r)).toNat a')).bind fun j=>if(!(b7 (j<0)))then bz (.inl ((bN.wrap ((hF (start+r))+1)),r))else bz (.inl (start,(hF (start+r))))else bz (.inr start)
def TI{α:Type}[Inhabited α](cmp:α->α->Option Int)(data:List α)(a m b C n p:Int):(Int×Int)->Option ((Int×Int)⊕Int)
 |(start,r)=>if(b7 (start<r))then ck (TS 1)<|ck (AS (bN.wrap (p-(hF (start+r)))) data.length)<|ck (AS (hF (start+r)) data.length)<|(cmp (data.getD (bN.wrap (p-(hF (start+r)))).toNat a') (data.getD (hF (start+r)).toNat a')).bind fun j=>if(!(b7 (j<0)))then bz (.inl ((bN.wrap ((hF (start+r))+1)),r))else bz (.inl (start,(hF (start+r))))else bz (.inr start)
def Do{α:Type}[Inhabited α](cmp:α->α->Option Int):Nat->(List α)->Int->Int->Int->Option (List α)
 |0,_,_,_,_=>none
 |R+1,data,a,m,b=>if((bN.wrap (m-a))==1)then(AE (RB cmp data a) (m,b)).bind fun ba=>(AE (NM ba) (data,a)).bind fun a7=>ck (a7.length==data.length)<|some a7 else if((bN.wrap (b-m))==1)then(AE (RA cmp data m) (a,m)).bind fun a8=>(AE (NL a8) (data,m)).bind fun a6=>ck (a6.length==data.length)<|some a6 else ck (TS 1)<|if(b7 ((hF (a+b))<m))then(AE (OC cmp data a m b (hF (a+b)) (bN.wrap ((hF (a+b))+m)) (bN.wrap ((bN.wrap ((hF (a+b))+m))-1))) ((bN.wrap ((bN.wrap ((hF (a+b))+m))-b)),(hF (a+b)))).bind fun C=>if((b7 (C<m))&&(b7 (m<(bN.wrap ((bN.wrap ((hF (a+b))+m))-C)))))then(kh data C m (bN.wrap ((bN.wrap ((hF (a+b))+m))-C))).bind fun J=>if((b7 (a<C))&&(b7 (C<(hF (a+b)))))then(Do cmp R J a C (hF (a+b))).bind fun ad=>if((b7 ((hF (a+b))<(bN.wrap ((bN.wrap ((hF (a+b))+m))-C))))&&(b7 ((bN.wrap ((bN.wrap ((hF (a+b))+m))-C))<b)))then(Do cmp R ad (hF (a+b)) (bN.wrap ((bN.wrap ((hF (a+b))+m))-C)) b).bind fun a1=>ck (a1.length==data.length)<|some a1 else ck (ad.length==data.length)<|some ad else if((b7 ((hF (a+b))<(bN.wrap ((bN.wrap ((hF (a+b))+m))-C))))&&(b7 ((bN.wrap ((bN.wrap ((hF (a+b))+m))-C))<b)))then(Do cmp R J (hF (a+b)) (bN.wrap ((bN.wrap ((hF (a+b))+m))-C)) b).bind fun az=>ck (az.length==data.length)<|some az else ck (J.length==data.length)<|some J else if((b7 (a<C))&&(b7 (C<(hF (a+b)))))then(Do cmp R data a C (hF (a+b))).bind fun ab=>if((b7 ((hF (a+b))<(bN.wrap ((bN.wrap ((hF (a+b))+m))-C))))&&(b7 ((bN.wrap ((bN.wrap ((hF (a+b))+m))-C))<b)))then(Do cmp R ab (hF (a+b)) (bN.wrap ((bN.wrap ((hF (a+b))+m))-C)) b).bind fun ay=>ck (ay.length==data.length)<|some ay else ck (ab.length==data.length)<|some ab else if((b7 ((hF (a+b))<(bN.wrap ((bN.wrap ((hF (a+b))+m))-C))))&&(b7 ((bN.wrap ((bN.wrap ((hF (a+b))+m))-C))<b)))then(Do cmp R data (hF (a+b)) (bN.wrap ((bN.wrap ((hF (a+b))+m))-C)) b).bind fun ax=>ck (ax.length==data.length)<|some ax else bz data else(AE (TI cmp data a m b (hF (a+b)) (bN.wrap ((hF (a+b))+m)) (bN.wrap ((bN.wrap ((hF (a+b))+m))-1))) (a,m)).bind fun j=>if((b7 (j<m))&&(b7 (m<(bN.wrap ((bN.wrap ((hF (a+b))+m))-j)))))then(kh data j m (bN.wrap ((bN.wrap ((hF (a+b))+m))-j))).bind fun I=>if((b7 (a<j))&&(b7 (j<(hF (a+b)))))then(Do cmp R I a j (hF (a+b))).bind fun aa=>if((b7 ((hF (a+b))<(bN.wrap ((bN.wrap ((hF (a+b))+m))-j))))&&(b7 ((bN.wrap ((bN.wrap ((hF (a+b))+m))-j))<b)))then(Do cmp R aa (hF (a+b)) (bN.wrap ((bN.wrap ((hF (a+b))+m))-j)) b).bind fun au=>ck (au.length==data.length)<|some au else ck (aa.length==data.length)<|some aa else if((b7 ((hF (a+b))<(bN.wrap ((bN.wrap ((hF (a+b))+m))-j))))&&(b7 ((bN.wrap ((bN.wrap ((hF (a+b))+m))-j))<b)))then(Do cmp R I (hF (a+b)) (bN.wrap ((bN.wrap ((hF (a+b))+m))-j)) b).bind fun ao=>ck (ao.length==data.length)<|some ao else ck (I.length==data.length)<|some I else if((b7 (a<j))&&(b7 (j<(hF (a+b)))))then(Do cmp R data a j (hF (a+b))).bind fun U=>if((b7 ((hF (a+b))<(bN.wrap ((bN.wrap ((hF (a+b))+m))-j))))&&(b7 ((bN.wrap ((bN.wrap ((hF (a+b))+m))-j))<b)))then(Do cmp R U (hF (a+b)) (bN.wrap ((bN.wrap ((hF (a+b))+m))-j)) b).bind fun aj=>ck (aj.length==data.length)<|some aj else ck (U.length==data.length)<|some U else if((b7 ((hF (a+b))<(bN.wrap ((bN.wrap ((hF (a+b))+m))-j))))&&(b7 ((bN.wrap ((bN.wrap ((hF (a+b))+m))-j))<b)))then(Do cmp R data (hF (a+b)) (bN.wrap ((bN.wrap ((hF (a+b))+m))-j)) b).bind fun ae=>ck (ae.length==data.length)<|some ae else bz data
def oh[Inhabited α](cmp:α->α->Option Int)(data:List α)(a m b:Int):Option (List α):=Do cmp 64 data a m b
def Mb{α:Type}[Inhabited α](cmp:α->α->Option Int)(n j:Int):((List α)×Int×Int)->Option (((List α)×Int×Int)⊕((List α)×Int))
 |(data,a,b)=>if(b7 (b<=n))then(om cmp data a b).bind fun C=>bz (.inl (C,b,(bN.wrap (b+j))))else bz (.inr (data,a))
def Lh{α:Type}[Inhabited α](cmp:α->α->Option Int)(n j:Int):((List α)×Int×Int)->Option (((List α)×Int×Int)⊕((List α)×Int))
 |(data,a,b)=>if(b7 (b<=n))then(oh cmp data a (bN.wrap (a+j)) b).bind fun C=>bz (.inl (C,b,(bN.wrap (b+(bN.wrap (2*j))))))else bz (.inr (data,a))
def Ka{α:Type}[Inhabited α](cmp:α->α->Option Int)(n:Int):((List α)×Int)->Option (((List α)×Int)⊕(List α))
 |(data,j)=>if(b7 (j<n))then(AE (Lh cmp n j) (data,0,(bN.wrap (2*j)))).bind fun C=>if(b7 ((bN.wrap (C.2+j))<n))then(oh cmp C.1 C.2 (bN.wrap (C.2+j)) n).bind fun I=>bz (.inl (I,(bN.wrap (j*2))))else bz (.inl (C.1,(bN.wrap (j*2))))else bz (.inr data)
def fZ[Inhabited α](cmp:α->α->Option Int)(data:List α)(n:Int):Option (List α) :=(AE (Mb cmp n 20) (data,0,20)).bind fun C=>(om cmp C.1 C.2 n).bind fun I=>(AE (Ka cmp n) (I,20)).bind fun j=>ck (j.length==data.length)<|some j
section
variable {α:Type}
structure mi(lt:α->α->Bool):Prop where
 asym:∀x y,lt x y=cb->lt y x=dU
 trans:∀x y z,lt y x=dU->lt z y=dU->lt z x=dU
def Ns(lt:α->α->Bool)(l:List α):Prop:=l.Pairwise fun x y=>lt y x=dU
def eqz(lt:α->α->Bool)(z x:α):Bool:=!lt x z && !lt z x
structure Ju(lt:α->α->Bool)(l l':List α):Prop where
 perm:l'.Perm l
 same:∀z,l'.filter (eqz lt z)=l.filter (eqz lt z)
variable {lt:α->α->Bool}
def Ju.refl(l:List α):Ju lt l l:=⟨List.Perm.refl _,fun _=>rfl⟩
def Ju.trans{a b c:List α}(h:Ju lt a b)(k:Ju lt b c):Ju lt a c:=⟨k.perm.trans h.perm,fun z=>(k.same z).trans (h.same z)⟩
def Ju.app{a b c d:List α}(h:Ju lt a b)(k:Ju lt c d):Ju lt (a++c) (b++d):=⟨h.perm.append k.perm,fun z=>by rw[e9,e9,h.same,k.same]⟩
def Ju.len{a b:List α}(h:Ju lt a b):b.length=a.length:=h.perm.length_eq
def Ju.mem{a b:List α}(h:Ju lt a b){x:α}:x∈b ↔ x∈a:=h.perm.mem_iff
def Vl(O:mi lt)(x:α):lt x x=dU:=by
 cases h:lt x x with
 |false=>rfl
 |true=>exact(O.asym x x h).symm.trans h |>.symm▸rfl
def Ju.swap(O:mi lt){u v:List α}(h:∀x∈u,∀y∈v,lt y x=cb):Ju lt (u++v) (v++u):=by
 refine⟨List.perm_append_comm,fun z=>?_⟩;rw[e9,e9]
 by_cases hu:u.filter (eqz lt z)=[]
 .rw[hu];simp
 .have U:v.filter (eqz lt z)=[]:=by
   rw[List.filter_eq_nil_iff];intro y J C;obtain⟨x,R⟩:=List.exists_mem_of_ne_nil _ hu;obtain⟨I,j⟩:=hB.1 R;unfold eqz at C j;simp only[baT,ek]at C j;have:=O.trans x z y j.2 C.1;rw[h x I y J]at this;cases this
  rw[U];simp
def Sv{u v:List α}(C:Ns lt u)(j:Ns lt v)(h:∀x∈u,∀y∈v,lt y x=dU):Ns lt (u++v):=cw.2 ⟨C,j,h⟩
def Zj(O:mi lt):∀{a b:List α},Ns lt a->Ns lt b->Ju lt a b->a=b
 | [],b,_,_,h=>by
  have:=h.len;simp at this;exact this.symm
 | x::a,[],_,_,h=>by
  have:=h.len;simp at this
 | x::a,y::b,ha,hb,h=>by
  obtain⟨pa,U⟩:=cn.1 ha;obtain⟨pb,R⟩:=cn.1 hb
  have I:lt y x=dU:=by
   rcases cI.1 (h.mem.1 (fA:y∈y::b))with e|e
   .rw[e];exact Vl O x
   .exact pa y e
  have C:lt x y=dU:=by
   rcases cI.1 (h.mem.2 (fA:x∈x::a))with e|e
   .rw[e];exact Vl O y
   .exact pb x e
  have J:=h.same x;have e1:eqz lt x y=cb:=by unfold eqz;rw[I,C];rfl
  have e2:eqz lt x x=cb:=by unfold eqz;rw[Vl O x];rfl
  rw[gf,if_pos e1,gf,if_pos e2]at J;have e3:y=x:=(List.cons.inj J).1;subst e3
  congr 1
  refine Zj O U R ⟨List.perm_cons _ |>.1 h.perm,fun z=>?_⟩;have j:=h.same z;rw[gf,gf]at j;split at j
  .exact(List.cons.inj j).2
  .exact j
end
section
variable {α:Type}[Inhabited α]{cmp:α->α->Option Int}{lt:α->α->Bool}
def QW(cmp:α->α->Option Int)(lt:α->α->Bool):Prop:=∀x y,∃k,cmp x y=bz k/\b7 (k<0)=lt x y
def oe(P:List α)(x:α)(R:List α):(P++x::R).getD P.length a'=x:=by
 rw[gdE,hG (dx _),kA];rfl
def ze(P:List α)(x y:α)(R:List α):(P++x::R).set P.length y=P++y::R:=by
 rw[List.set_append_right _ _ (dx _),kA];rfl
def ABN(P:List α)(x y:α)(R:List α):(P++x::y::R).getD (P.length+1) a'=y:=by
 have:=oe (P++[x]) y R;simpa using this
def AGy(P:List α)(x y z:α)(R:List α):(P++x::y::R).set (P.length+1) z=P++x::z::R:=by
 have:=ze (P++[x]) y z R;simpa using this
def qI(P:List α)(x y:α)(R:List α):((P++x::y::R).set (P.length+1) x).set P.length y=P++y::x::R/\((P++x::y::R).set P.length y).set (P.length+1) x=P++y::x::R:=by
 rw[AGy,ze,ze,AGy];exact⟨rfl,rfl⟩
def Vu(hc:QW cmp lt)(P:List α)(x y:α)(R:List α){a:Nat}(b i:Int)(ha:a<=P.length)(hl:(P++y::x::R).length<=1099511627776):
  NO cmp (a:Int) b i (P++y::x::R,((P.length+1:Nat):Int))=bz (if lt x y=cb then .inl (P++x::y::R,(P.length:Int))else .inr (P++y::x::R)):=by
 have hlen:(P++y::x::R).length=P.length+(R.length+2):=p'
 have C:bN.wrap (((P.length+1:Nat):Int)-1)=(P.length:Int):=by rw[Z1 n'];omega
 have e0:b7 ((a:Int)<((P.length+1:Nat):Int))=true:=decide_eq_true n';have J:AS ((P.length+1:Nat):Int) (P++y::x::R).length=true:=Z2 n';have I:AS (P.length:Int) (P++y::x::R).length=true:=Z2 n';obtain⟨k,U,j⟩:=hc x y;unfold NO;simp only[C,e0,J,I,h9,oe,ABN,U,j,df,cB,dc,ef,e8,AB];rw[(qI P y x R).1];split<;>rfl
def ABB(D:List α)(a:Nat)(b i:Int):NO cmp (a:Int) b i (D,(a:Int))=bz (.inr D):=by
 unfold NO;simp[AB]
def ALN(hc:QW cmp lt)(O:mi lt)(j C:List α)(b i:Int)(x:α):∀(n:Nat) (s1 s2:List α),s1.length=n->Ns lt (s1++s2)->(∀z∈s2,lt x z=cb) ->
  (j++(s1++x::(s2++C))).length<=1099511627776 ->
  ∃w,AE (NO cmp (j.length:Int) b i) (j++(s1++x::(s2++C)),((j.length+s1.length:Nat):Int))=bz (j++(w++C))/\Ns lt w/\Ju lt (s1++s2++[x]) w:=by
 intro n
 induction n with
 | zero=>
  intro s1 s2 hn hs R hl;obtain rfl:=bX.1 hn;refine⟨x::s2,Ai (ABB _ _ _ _),cn.2 ⟨fun z I=>O.asym _ _ (R z I),(show Ns lt s2 by simpa using hs)⟩,?_⟩;have:=Ju.swap O (u:=s2) (v:=[x]) (fun z I y hy=>by rw[e'.1 hy];exact R z I);simpa using this
 | succ n ih=>
  intro s1 s2 hn hs R hl;obtain⟨t,y,rfl⟩:∃t y,s1=t++[y]:=⟨s1.dropLast,s1.getLast (by intro e;rw[e]at hn;simp at hn),(hE _).symm⟩;have ht:t.length=n:=by simpa using hn
  have e:j++(t++[y]++x::(s2++C))=(j++t)++y::x::(s2++C):=p'
  have st:=Vu hc (j++t) x y (s2++C) (a:=j.length) b i p' (by rw[←e];exact hl);have el:j.length+(t++[y]).length=(j++t).length+1:=t'
  rw[el,e]
  by_cases q:lt x y=cb
  .rw[if_pos q]at st;rw[Aq st];have e2:(j++t)++x::y::(s2++C)=j++(t++x::(y::s2++C)):=p'
   have ae:((j++t).length:Int)=((j.length+t.length:Nat):Int):=p'
   rw[e2,ae]
   obtain⟨w,h1,h2,h3⟩:=ih t (y::s2) ht (by simpa using hs) (fun z I=>by
    rcases cI.1 I with rfl|I
    .exact q
    .exact R z I) (by rw[←e2];rw[e]at hl;simpa using hl)
   exact⟨w,h1,h2,by simpa using h3⟩
  .rw[if_neg q]at st;have q':lt x y=dU:=by simpa using q
   refine⟨t++[y]++x::s2,?_,?_,?_⟩
   .rw[Ai st];simp
   .have J:=cw.1 hs;refine Sv J.1 (cn.2 ⟨fun z I=>O.asym _ _ (R z I),J.2.1⟩) fun z I v U=>?_
    have hy:lt y z=dU:=by
     rcases eL.1 I with h|h
     .exact(cw.1 J.1).2.2 z h y p'
     .rw[e'.1 h];exact Vl O y
    rcases cI.1 U with rfl|U
    .exact O.trans _ _ _ hy q'
    .exact J.2.2 z I v U
   .have:=(Ju.refl (lt:=lt) (t++[y])).app (Ju.swap O (u:=s2) (v:=[x]) (fun z I v U=>by rw[e'.1 U];exact R z I));simpa using this
def uZ(U:QW cmp lt)(O:mi lt)(j C:List α):∀(t s:List α),Ns lt s->(j++(s++(t++C))).length<=1099511627776 ->
  ∃w,AE (NP cmp (j.length:Int) ((j.length+(s.length+t.length):Nat):Int)) (j++(s++(t++C)),((j.length+s.length:Nat):Int))=bz (j++(w++C))/\Ns lt w/\Ju lt (s++t) w
 |[],s,hs,J=>⟨s,Ai (by unfold NP;dsimp only;rw[if_neg p'];simp),hs,by rw[ed];exact Ju.refl _⟩
 | x::t,s,hs,J=>by
  have ad:j.length+(s.length+(t.length+1+C.length))<=1099511627776:=by simpa[hM,Nat.add_comm,Nat.add_left_comm]using J
  obtain⟨I,h1,h2,h3⟩:=ALN U O j (t++C) ((j.length+(s.length+(x::t).length):Nat):Int) ((j.length+s.length:Nat):Int) x s.length s [] rfl (by simpa using hs) p' (by simpa using J);have e3:Ju lt (s++[x]) I:=by simpa using h3
  have hw:I.length=s.length+1:=by rw[e3.len];simp
  have st:NP cmp (j.length:Int) ((j.length+(s.length+(x::t).length):Nat):Int) (j++(s++(x::t++C)),((j.length+s.length:Nat):Int))=bz (.inl (j++(I++(t++C)),((j.length+I.length:Nat):Int))):=by
   unfold NP;have e0:b7 (((j.length+s.length:Nat):Int)<((j.length+(s.length+(x::t).length):Nat):Int))=true:=decide_eq_true t';simp only[e0,if_true];have R:AE (NO cmp (j.length:Int) ((j.length+(s.length+(x::t).length):Nat):Int) ((j.length+s.length:Nat):Int)) (j++(s++(x::t++C)),((j.length+s.length:Nat):Int))=bz (j++(I++(t++C))):=by simpa using h1
   rw[R,en,AW n',hw];rfl
  rw[Aq st];obtain⟨w,k1,k2,k3⟩:=uZ U O j C t I h2 (by simp[hw];omega);refine⟨w,?_,k2,?_⟩
  .have:j.length+(s.length+(x::t).length)=j.length+(I.length+t.length):=by rw[hw];simp;omega
   rw[this];exact k1
  .have:=Ju.trans (e3.app (Ju.refl t)) k3;simpa using this
theorem kS(hc:QW cmp lt)(O:mi lt)(j I C:List α)(R:(j++(I++C)).length<=1099511627776):
  ∃w,om cmp (j++(I++C)) (j.length:Int) ((j.length+I.length:Nat):Int)=bz (j++(w++C))/\Ns lt w/\Ju lt I w:=by
 have U:j.length+(I.length+C.length)<=1099511627776:=by simpa using R
 unfold om;rw[AW n'];cases I with
 | nil=>
  refine⟨[],?_,ew,Ju.refl _⟩;rw[Ai (r:=j++([]++C)) (by unfold NP;dsimp only;rw[if_neg t'])];simp[AB]
 | cons x t=>
  obtain⟨w,k1,k2,J⟩:=uZ hc O j C t [x] (hN _ _) (by simpa using R);refine⟨w,?_,k2,by simpa using J⟩;have hw:w.length=t.length+1:=by rw[J.len];simp
  have e:j.length+([x].length+t.length)=j.length+(x::t).length:=t'
  have e2:j++([x]++(t++C))=j++(x::t++C):=p'
  have e3:((j.length+[x].length:Nat):Int)=((j.length+1:Nat):Int):=rfl;rw[e,e2,e3]at k1;rw[k1,en];have:((j++(w++C)).length==(j++(x::t++C)).length)=cb:=by simp[hw];omega
  rw[this,AB]
end
section
variable {α:Type}[Inhabited α]
def mv(C:List α)(a b n:Nat)(hb:b<=1099511627776)(ha:a<=1099511627776)(hn:n<=1099511627776):∀(x y pre j:List α) (i:Nat),x.length=y.length->a+i=pre.length->b+i=pre.length+x.length+j.length->i+x.length=n ->
  AE (PL (α:=α) (a:Int) (b:Int) (n:Int)) (pre++(x++(j++(y++C))),(i:Int))=bz (pre++(y++(j++(x++C))))
 | [],[],pre,j,i,_,_,_,h=>Ai (by
   have:i=n:=by simpa using h
   unfold PL;dsimp only;rw[if_neg (by simp[this])])
 |[],_::_,_,_,_,h,_,_,_=>by simp at h
 |_::_,[],_,_,_,h,_,_,_=>by simp at h
 | x1::x,I::y,pre,j,i,h,h1,h2,h3=>by
  have J:x.length=y.length:=by simpa using h
  simp only[fm]at h2 h3;have w1:bN.wrap ((a:Int)+(i:Int))=(pre.length:Int):=by rw[Z1 n'];omega
  have w2:bN.wrap ((b:Int)+(i:Int))=((pre++x1::(x++j)).length:Int):=by
   have:(pre++x1::(x++j)).length=b+i:=t'
   rw[this,Z1 n'];omega
  have U:pre++(x1::x++(j++(I::y++C)))=(pre++x1::(x++j))++I::(y++C):=p'
  have R:pre++(x1::x++(j++(I::y++C)))=pre++x1::(x++(j++(I::y++C))):=p'
  have g1:(pre++(x1::x++(j++(I::y++C)))).getD pre.length a'=x1:=by rw[R];exact oe _ _ _
  have g2:(pre++(x1::x++(j++(I::y++C)))).getD (pre++x1::(x++j)).length a'=I:=by rw[U];exact oe _ _ _
  have s1:((pre++(x1::x++(j++(I::y++C)))).set pre.length I).set (pre++x1::(x++j)).length x1=(pre++[I])++(x++((j++[x1])++(y++C))):=by
   rw[R,ze];have:pre++I::(x++(j++(I::y++C)))=(pre++I::(x++j))++I::(y++C):=p'
   have l:(pre++x1::(x++j)).length=(pre++I::(x++j)).length:=p'
   rw[this,l,ze];simp
  have o1:AS (pre.length:Int) (pre++(x1::x++(j++(I::y++C)))).length=true:=Dz n' t';have o2:AS ((pre++x1::(x++j)).length:Int) (pre++(x1::x++(j++(I::y++C)))).length=true:=Dz n' (by rw[U];simp;omega)
  have st:PL (a:Int) (b:Int) (n:Int) (pre++(x1::x++(j++(I::y++C))),(i:Int))=bz (.inl ((pre++[I])++(x++((j++[x1])++(y++C))),((i+1:Nat):Int))):=by
   unfold PL;have e0:b7 ((i:Int)<(n:Int))=true:=decide_eq_true n';simp only[e0,if_true,w1,w2,o1,o2,AB,h9,g1,g2,s1,(Z4 i)]
  rw[Aq st,mv C a b n hb ha hn x y (pre++[I]) (j++[x1]) (i+1) J t' t' n'];simp
theorem qP(j x C y I:List α)(h:x.length=y.length)(U:(j++(x++(C++(y++I)))).length<=1099511627776){a b n:Int}(ha:a=(j.length:Int))(hb:b=((j.length+x.length+C.length:Nat):Int))(J:n=(x.length:Int)):
  ol (j++(x++(C++(y++I)))) a b n=bz (j++(y++(C++(x++I)))):=by
 subst ha hb J;have R:j.length+(x.length+(C.length+(y.length+I.length)))<=1099511627776:=by simpa using U
 unfold ol;have:=mv I j.length (j.length+x.length+C.length) x.length n' n' n' x y j C 0 h rfl rfl n';have e0:((0:Nat):Int)=0:=rfl;rw[e0]at this;rw[this,en];have e:((j++(y++(C++(x++I)))).length==(j++(x++(C++(y++I)))).length)=cb:=by simp[h]
 rw[e,AB]
def zi(m:Nat)(hm:m<=1099511627776):∀(k:Nat) (u v A B:List α),u.length+v.length<=k->0<u.length->0<v.length->m=A.length+u.length->(A++(u++(v++B))).length<=1099511627776 ->
  ∃R I J U,AE (NN (α:=α) (m:Int)) (A++(u++(v++B)),(u.length:Int),(v.length:Int))=bz (R++(I++(J++U)),(I.length:Int))/\I.length=J.length/\m=R.length+I.length/\R++(J++(I++U))=A++(v++(u++B))/\(R++(I++(J++U))).length=(A++(u++(v++B))).length:=by
 intro k
 induction k with
 |zero=>intro u v A B h hu hv;omega
 | succ k ih=>
  intro u v A B h hu hv hA hl;have a8:A.length+(u.length+(v.length+B.length))<=1099511627776:=by simpa using hl
  by_cases q:u.length=v.length
  .refine⟨A,u,v,B,Ai ?_,q,hA,rfl,rfl⟩;unfold NN;dsimp only;rw[if_neg (by simp[q])]
  .have q1:(!((u.length:Int)==(v.length:Int)))=cb:=t'
   have wm:bN.wrap ((m:Int)-(u.length:Int))=(A.length:Int):=by rw[Z1 n'];omega
   by_cases q2:v.length<u.length
   .obtain⟨C,j,rfl,h1⟩:∃C j,u=C++j/\C.length=v.length:=⟨u.take v.length,u.drop v.length,(bs _ _).symm,t'⟩;have a1:(C++j).length=C.length+j.length:=ct;have e:A++(C++j++(v++B))=A++(C++(j++(v++B))):=p'
    have sw:=qP A C j v B h1 (by rw[←e];exact hl) (a:=(A.length:Int)) (b:=(m:Int)) (n:=(v.length:Int)) rfl n' n'
    have st:NN (m:Int) (A++(C++j++(v++B)),((C++j).length:Int),(v.length:Int))=bz (.inl ((A++v)++(j++(C++B)),(j.length:Int),(C.length:Int))):=by
     unfold NN;have q3:b7 ((v.length:Int)<((C++j).length:Int))=true:=decide_eq_true n';have w2:bN.wrap (((C++j).length:Int)-(v.length:Int))=(j.length:Int):=by rw[Z1 n'];omega
     simp only[q1,if_true,q3,wm,w2];rw[e,sw,en,h1];simp
    obtain⟨R,I,J,U,r1,r2,r3,r4,r5⟩:=ih j C (A++v) B n' n' n' t' t';refine⟨R,I,J,U,by rw[Aq st];exact r1,r2,r3,by rw[r4];simp,by rw[r5];simp;omega⟩
   .obtain⟨v1,v2,rfl,h1⟩:∃v1 v2,v=v1++v2/\v2.length=u.length:=⟨v.take (v.length-u.length),v.drop (v.length-u.length),(bs _ _).symm,t'⟩;have az:(v1++v2).length=v1.length+v2.length:=ct;have e:A++(u++(v1++v2++B))=A++(u++(v1++(v2++B))):=p'
    have sw:=qP A u v1 v2 B h1.symm (by rw[←e];exact hl) (a:=(A.length:Int)) (b:=((A.length+u.length+v1.length:Nat):Int)) (n:=(u.length:Int)) rfl rfl rfl
    have st:NN (m:Int) (A++(u++(v1++v2++B)),(u.length:Int),((v1++v2).length:Int))=bz (.inl (A++(v2++(v1++(u++B))),(v2.length:Int),(v1.length:Int))):=by
     unfold NN;have q3:b7 (((v1++v2).length:Int)<(u.length:Int))=false:=decide_eq_false n';have w2:bN.wrap (((v1++v2).length:Int)-(u.length:Int))=(v1.length:Int):=by rw[Z1 n'];omega
     have w3:bN.wrap (bN.wrap ((m:Int)+((v1++v2).length:Int))-(u.length:Int))=((A.length+u.length+v1.length:Nat):Int):=by
      rw[Z1 (n:=(m:Int)+((v1++v2).length:Int)) n',Z1 n'];omega
     simp only[q1,if_true,q3,wm,w2,w3,iR,if_false];rw[e,sw,en,h1]
    obtain⟨R,I,J,U,r1,r2,r3,r4,r5⟩:=ih v2 v1 A (u++B) n' n' n' n' t';refine⟨R,I,J,U,by rw[Aq st];exact r1,r2,r3,by rw[r4];simp,by rw[r5];simp;omega⟩
def AKc(A u v B:List α)(hu:0<u.length)(hv:0<v.length)(C:(A++(u++(v++B))).length<=1099511627776):
  kh (A++(u++(v++B))) (A.length:Int) ((A.length+u.length:Nat):Int) ((A.length+u.length+v.length:Nat):Int)=bz (A++(v++(u++B))):=by
 have au:A.length+(u.length+(v.length+B.length))<=1099511627776:=by simpa using C
 obtain⟨I,j,v',B',r1,r2,R,r4,r5⟩:=zi (A.length+u.length) n' _ u v A B (dx _) hu hv rfl C;unfold kh;have w1:bN.wrap (((A.length+u.length:Nat):Int)-(A.length:Int))=(u.length:Int):=by rw[Z1 n'];omega
 have w2:bN.wrap (((A.length+u.length+v.length:Nat):Int)-((A.length+u.length:Nat):Int))=(v.length:Int):=by rw[Z1 n'];omega
 rw[w1,w2,r1,en];dsimp only;have U:bN.wrap (((A.length+u.length:Nat):Int)-(j.length:Int))=(I.length:Int):=by rw[R,Z1 n'];omega
 have J:=qP I j [] v' B' r2 (by simp only[ea];rw[r5];exact C) (a:=(I.length:Int)) (b:=((A.length+u.length:Nat):Int)) (n:=(j.length:Int)) rfl (by rw[R];simp) rfl;simp only[ea]at J;rw[U,J,en,r4];have e:((A++(v++(u++B))).length==(A++(u++(v++B))).length)=cb:=t'
 rw[e,AB]
end
section
variable {α:Type}[Inhabited α]{cmp:α->α->Option Int}{lt:α->α->Bool}
def bx{step:Int×Int->Option ((Int×Int)⊕Int)}(P:Nat->Bool)(lo hi:Nat)(C:∀c d,lo<=c->c<=d->d<hi->P c=cb->P d=cb)
  (hs:∀i j:Nat,lo<=i->i<j->j<=hi->step ((i:Int),(j:Int))=bz (.inl (if P ((i+j)/2)=cb then((i:Int),(((i+j)/2:Nat):Int))else((((i+j)/2+1:Nat):Int),(j:Int)))))
  (he:∀i:Nat,step ((i:Int),(i:Int))=bz (.inr (i:Int))) (ab:lo<=hi) :
  ∃s:Nat,lo<=s/\s<=hi/\AE step ((lo:Int),(hi:Int))=bz (s:Int)/\(∀c,lo<=c->c<s->P c=dU)/\(∀c,s<=c->c<hi->P c=cb):=by
 have key:∀(k i j:Nat),j-i<=k->lo<=i->i<=j->j<=hi->(∀c,lo<=c->c<i->P c=dU)->(∀c,j<=c->c<hi->P c=cb) ->
   ∃s:Nat,lo<=s/\s<=hi/\AE step ((i:Int),(j:Int))=bz (s:Int)/\(∀c,lo<=c->c<s->P c=dU)/\(∀c,s<=c->c<hi->P c=cb):=by
  intro k
  induction k with
  | zero=>
   intro i j h1 h2 h3 R h5 U;obtain rfl:i=j:=n'
   exact⟨i,h2,R,Ai (he i),h5,U⟩
  | succ k ih=>
   intro i j h1 h2 h3 R h5 U
   by_cases q:i=j
   .subst q;exact⟨i,h2,R,Ai (he i),h5,U⟩
   .have st:=hs i j h2 n' R
    by_cases p:P ((i+j)/2)=cb
    .rw[if_pos p]at st;rw[Aq st];exact ih i ((i+j)/2) n' h2 n' n' h5 fun c I J=>C _ c n' I J p
    .rw[if_neg p]at st;rw[Aq st];refine ih ((i+j)/2+1) j n' n' n' R (fun c I J=>?_) U;cases hp:P c with
     |false=>rfl
     |true=>exact absurd (C c _ I n' n' hp) p
 exact key (hi-lo) lo hi (dx _) (dx _) ab (dx _) (fun c _ h=>n') (fun c h1 h2=>n')
def wrap_u64{n:Int}(C:0<=n)(j:n<18446744073709551616):u64.wrap n=n:=by
 unfold IntKind.wrap IntKind.bits;simp[IntKind.signed];omega
def WB{i j:Nat}(h:i+j<=4611686018427387904):hF ((i:Int)+(j:Int))=(((i+j)/2:Nat):Int):=by
 unfold hF
 rw[Z1 (n:=(i:Int)+(j:Int)) n',wrap_u64 n' n']
 have:((i:Int)+(j:Int)).fdiv (2^(min 1 64))=(((i+j)/2:Nat):Int):=by
  rw[show(2:Int)^(min 1 64)=2 by decide,Int.fdiv_eq_ediv_of_nonneg _ n'];omega
 rw[this,Z1 n']
def uf(j u r:List α){t:Nat}(h:t<u.length):(j++(u++r)).getD (j.length+t) a'=u.getD t a':=by
 rw[gdE,hG n',show j.length+t-j.length=t by omega,List.getElem?_append_left h,gdE]
def Rr(O:mi lt){l:List α}(h:Ns lt l){i j:Nat}(C:i<=j)(I:j<l.length):lt (l.getD j a') (l.getD i a')=dU:=by
 rcases Nat.eq_or_lt_of_le C with e|e
 .subst e;exact Vl O _
 .have:=f'.1 h i j n' I e;rw[Cl I,Cl (show i<l.length by omega)];exact this
def tj(R:List α)(i:Nat)(hi:i<=1099511627776)(x:α):∀(v pre:List α),i=pre.length+v.length+1->AE (NM (α:=α) (i:Int)) (pre++x::(v++R),(pre.length:Int))=bz (pre++(v++x::R))
 | [],pre,h=>Ai (by
   have w:bN.wrap ((i:Int)-1)=(pre.length:Int):=by rw[Z1 n'];simp at h;omega
   unfold NM;dsimp only;rw[w,if_neg p'];rfl)
 | y::v,pre,h=>by
  have h':i=pre.length+(v.length+1)+1:=by simpa using h
  have w:bN.wrap ((i:Int)-1)=((pre.length+(v.length+1):Nat):Int):=by rw[Z1 n'];omega
  have j:bN.wrap ((pre.length:Int)+1)=((pre.length+1:Nat):Int):=AW n';have J:b7 ((pre.length:Int)<((pre.length+(v.length+1):Nat):Int))=true:=decide_eq_true n';have U:(pre++x::(y::v++R)).length=pre.length+(v.length+R.length+2):=by simp;try omega
  have I:AS ((pre.length+1:Nat):Int) (pre++x::(y::v++R)).length=true:=Z2 n';have C:AS (pre.length:Int) (pre++x::(y::v++R)).length=true:=Z2 n';have g0:(pre++x::(y::v++R)).getD pre.length a'=x:=oe _ _ _;have g1:(pre++x::(y::v++R)).getD (pre.length+1) a'=y:=ABN pre x y (v++R)
  have s1:((pre++x::(y::v++R)).set pre.length y).set (pre.length+1) x=(pre++[y])++x::(v++R):=by
   have:=(qI pre x y (v++R)).2;rw[b'];exact this
  have st:NM (i:Int) (pre++x::(y::v++R),(pre.length:Int))=bz (.inl ((pre++[y])++x::(v++R),((pre.length+1:Nat):Int))):=by
   unfold NM;simp only[w,j,J,I,C,if_true,AB,h9,g0,g1,s1]
  have el:((pre.length+1:Nat):Int)=((pre++[y]).length:Int):=p'
  rw[Aq st,el,tj R i hi x v (pre++[y]) t'];simp
def AEw(j:List α)(hp:j.length<=1099511627776)(y:α):∀(n:Nat) (u R:List α),u.length=n->(j++(u++y::R)).length<=1099511627776 ->
  AE (NL (α:=α) (j.length:Int)) (j++(u++y::R),((j.length+u.length:Nat):Int))=bz (j++(y::(u++R))):=by
 intro n
 induction n with
 | zero=>
  intro u R C I;obtain rfl:=bX.1 C;refine Ai ?_;unfold NL;dsimp only;rw[if_neg p'];rfl
 | succ n ih=>
  intro u R C I;obtain⟨t,x,rfl⟩:∃t x,u=t++[x]:=⟨u.dropLast,u.getLast (by intro e;rw[e]at C;simp at C),(hE _).symm⟩;have ht:t.length=n:=by simpa using C
  have e:j++(t++[x]++y::R)=(j++t)++x::y::R:=p'
  have el:j.length+(t++[x]).length=(j++t).length+1:=t'
  have ao:(j++t).length+(R.length+2)<=1099511627776:=by rw[e]at I;simpa[hM]using I
  have hlen:((j++t)++x::y::R).length=(j++t).length+(R.length+2):=by simp;try omega
  rw[el,e];have w1:bN.wrap ((((j++t).length+1:Nat):Int)-1)=((j++t).length:Int):=by rw[Z1 n'];omega
  have e0:b7 ((j.length:Int)<(((j++t).length+1:Nat):Int))=true:=decide_eq_true t';have o1:AS (((j++t).length+1:Nat):Int) ((j++t)++x::y::R).length=true:=Z2 n';have o2:AS ((j++t).length:Int) ((j++t)++x::y::R).length=true:=Z2 n'
  have st:NL (j.length:Int) ((j++t)++x::y::R,(((j++t).length+1:Nat):Int))=bz (.inl ((j++t)++y::x::R,((j++t).length:Int))):=by
   unfold NL;simp only[w1,e0,o1,o2,if_true,AB,h9,oe,ABN];rw[(qI (j++t) x y R).1]
  rw[Aq st];have U:(j++t)++y::x::R=j++(t++y::(x::R)):=p'
  have J:((j++t).length:Int)=((j.length+t.length:Nat):Int):=p'
  rw[U,J,ih t (x::R) ht (by rw[←U];rw[e]at I;simpa using I)];simp
end
section
variable {α:Type}[Inhabited α]{cmp:α->α->Option Int}{lt:α->α->Bool}
def zJ(hc:QW cmp lt)(O:mi lt)(k:Nat)(C:List α)(x:α)(v I:List α)(hv:Ns lt v)(hl:(C++(x::(v++I))).length<=1099511627776):
  ∃w,Do cmp (k+1) (C++(x::(v++I))) (C.length:Int) ((C.length+1:Nat):Int) ((C.length+1+v.length:Nat):Int)=bz (C++(w++I))/\Ns lt w/\Ju lt (x::v) w:=by
 have ba:C.length+(v.length+I.length+1)<=1099511627776:=by simpa[hM]using hl
 have hlen:(C++(x::(v++I))).length=C.length+(v.length+I.length+1):=p'
 have e:C++(x::(v++I))=(C++[x])++(v++I):=p'
 have hD:∀h,C.length+1<=h->h<C.length+1+v.length->(C++(x::(v++I))).getD h a'=v.getD (h-(C.length+1)) default:=fun h h1 h2=>by
  have:=uf (C++[x]) v I (t:=h-(C.length+1)) n';rw[←e]at this;rw[←this];congr 1;simp;omega
 obtain⟨s,s1,s2,s3,s4,s5⟩:=bx (step:=RB cmp (C++(x::(v++I))) (C.length:Int)) (fun h=>!(lt (v.getD (h-(C.length+1)) a') x)) (C.length+1) (C.length+1+v.length)
  (fun c d h1 h2 h3 hp=>by
   simp only[ek]at hp ⊢;exact O.trans _ _ _ hp (Rr O hv (i:=c-(C.length+1)) (j:=d-(C.length+1)) n' n'))
  (fun i j h1 h2 h3=>by
   have hh:=WB (i:=i) (j:=j) n';obtain⟨q,hq,ad⟩:=hc (v.getD ((i+j)/2-(C.length+1)) a') x;have e0:b7 ((i:Int)<(j:Int))=true:=decide_eq_true n';have o1:AS (((i+j)/2:Nat):Int) (C++(x::(v++I))).length=true:=Z2 n';have o2:AS (C.length:Int) (C++(x::(v++I))).length=true:=Z2 n';unfold RB;simp only[e0,if_true,hh,o1,o2,AB,VL (show(0:Int)<=1 by omega),h9,hD _ (show C.length+1<=(i+j)/2 by omega) n',oe,hq,en,ad,AW (show(i+j)/2<9223372036854775807 by omega)];cases lt (v.getD ((i+j)/2-(C.length+1)) a') x<;>rfl)
  (fun i=>by unfold RB;dsimp only;rw[if_neg p']) n'
 obtain⟨v1,v2,J,hv1⟩:∃v1 v2,v=v1++v2/\v1.length=s-(C.length+1):=⟨v.take (s-(C.length+1)),v.drop (s-(C.length+1)),(bs _ _).symm,t'⟩;have a7:v.length=v1.length+v2.length:=by rw[J];simp
 have f1:∀y∈v1,lt y x=true:=fun y R=>by
  obtain⟨i,hi,rfl⟩:=bS R;have:=s4 (C.length+1+i) n' n';simp only[Bool.not_eq_false']at this;rw[show C.length+1+i-(C.length+1)=i by omega,Cl n']at this;have e2:v[i]'(n')=v1[i]:=by simp only[J];rw[hJ hi]
  rwa [e2]at this
 have f2:∀y∈v2,lt y x=false:=fun y R=>by
  obtain⟨i,hi,rfl⟩:=bS R;have:=s5 (s+i) n' n';simp only[ek]at this;rw[Cl n']at this
  have e2:v[s+i-(C.length+1)]'(n')=v2[i]:=by
   simp only[J];rw[hI n']
   congr 1;omega
  rwa [e2]at this
 refine⟨v1++x::v2,?_,?_,?_⟩
 .have lp:=tj (v2++I) s n' x v1 C n';have e3:C++x::(v1++(v2++I))=C++(x::(v++I)):=by rw[J];simp
  rw[e3]at lp;have w1:bN.wrap (((C.length+1:Nat):Int)-(C.length:Int))=1:=by rw[Z1 n'];omega
  unfold Do;rw[w1,if_pos x',s3,en,lp,en];have e4:((C++(v1++x::(v2++I))).length==(C++(x::(v++I))).length)=cb:=t'
  rw[e4,AB];simp
 .rw[J]at hv;have U:=cw.1 hv;refine Sv U.1 (cn.2 ⟨fun y R=>f2 y R,U.2.1⟩) fun a ha b hb=>?_
  rcases cI.1 hb with rfl|hb
  .exact O.asym _ _ (f1 a ha)
  .exact U.2.2 a ha b hb
 .have:=(Ju.swap O (u:=[x]) (v:=v1) (fun a ha y R=>by rw[e'.1 ha];exact f1 y R)).app (Ju.refl v2);rw[J];simpa using this
def wd(hc:QW cmp lt)(O:mi lt)(k:Nat)(C u:List α)(y:α)(I:List α)(hu:Ns lt u)(bb:u.length≠1)(hl:(C++(u++(y::I))).length<=1099511627776):
  ∃w,Do cmp (k+1) (C++(u++(y::I))) (C.length:Int) ((C.length+u.length:Nat):Int) ((C.length+u.length+1:Nat):Int)=bz (C++(w++I))/\Ns lt w/\Ju lt (u++[y]) w:=by
 have hlen:(C++(u++(y::I))).length=C.length+(u.length+(I.length+1)):=p'
 have bo:C.length+(u.length+(I.length+1))<=1099511627776:=by rw[←hlen];exact hl
 have hD:∀h,C.length<=h->h<C.length+u.length->(C++(u++(y::I))).getD h a'=u.getD (h-C.length) default:=fun h h1 h2=>by
  have:=uf C u (y::I) (t:=h-C.length) n';rw[←this];congr 1;omega
 have hY:(C++(u++(y::I))).getD (C.length+u.length) a'=y:=by
  have:=oe (C++u) y I;simpa using this
 obtain⟨s,s1,s2,s3,s4,s5⟩:=bx (step:=RA cmp (C++(u++(y::I))) ((C.length+u.length:Nat):Int)) (fun h=>lt y (u.getD (h-C.length) a')) C.length (C.length+u.length)
  (fun c d h1 h2 h3 hp=>by
   cases hq:lt y (u.getD (d-C.length) a')with
   |true=>rfl
   |false=>exact absurd (O.trans _ _ _ (Rr O hu (i:=c-C.length) (j:=d-C.length) n' n') hq) (by rw[hp];simp))
  (fun i j h1 h2 h3=>by
   have hh:=WB (i:=i) (j:=j) n';obtain⟨q,hq,ao⟩:=hc y (u.getD ((i+j)/2-C.length) a');have e0:b7 ((i:Int)<(j:Int))=true:=decide_eq_true n';have o1:AS (((i+j)/2:Nat):Int) (C++(u++(y::I))).length=true:=Z2 n';have o2:AS ((C.length+u.length:Nat):Int) (C++(u++(y::I))).length=true:=Z2 n';unfold RA;simp only[e0,if_true,hh,o1,o2,AB,VL (show(0:Int)<=1 by omega),h9,hD _ (show C.length<=(i+j)/2 by omega) n',hY,hq,en,ao,AW (show(i+j)/2<9223372036854775807 by omega)];cases lt y (u.getD ((i+j)/2-C.length) a')<;>rfl)
  (fun i=>by unfold RA;dsimp only;rw[if_neg p']) n'
 obtain⟨R,U,J,be⟩:∃R U,u=R++U/\R.length=s-C.length:=⟨u.take (s-C.length),u.drop (s-C.length),(bs _ _).symm,t'⟩;have ba:u.length=R.length+U.length:=by rw[J];simp
 have f1:∀x∈R,lt y x=false:=fun x hx=>by
  obtain⟨i,hi,rfl⟩:=bS hx;have:=s4 (C.length+i) n' n';rw[show C.length+i-C.length=i by omega,Cl n']at this;have e2:u[i]'(n')=R[i]:=by simp only[J];rw[hJ hi]
  rwa [e2]at this
 have f2:∀x∈U,lt y x=true:=fun x hx=>by
  obtain⟨i,hi,rfl⟩:=bS hx;have:=s5 (s+i) n' n';rw[Cl n']at this
  have e2:u[s+i-C.length]'(n')=U[i]:=by
   simp only[J];rw[hI n']
   congr 1;omega
  rwa [e2]at this
 refine⟨R++y::U,?_,?_,?_⟩
 .have lp:=AEw (C++R) t' y U.length U I rfl t';have e3:(C++R)++(U++y::I)=C++(u++(y::I)):=by rw[J];simp
  have e4:((C++R).length:Int)=(s:Int):=t'
  have e5:(C++R).length+U.length=C.length+u.length:=t'
  rw[e3,e4,e5]at lp;have w1:bN.wrap (((C.length+u.length:Nat):Int)-(C.length:Int))=(u.length:Int):=by rw[Z1 n'];omega
  have w2:bN.wrap (((C.length+u.length+1:Nat):Int)-((C.length+u.length:Nat):Int))=1:=by rw[Z1 n'];omega
  unfold Do;rw[w1,w2,if_neg t',if_pos x',s3,en,lp,en];have e6:(((C++R)++(y::(U++I))).length==(C++(u++(y::I))).length)=cb:=t'
  rw[e6,AB];simp
 .rw[J]at hu;have aa:=cw.1 hu;refine Sv aa.1 (cn.2 ⟨fun x hx=>O.asym _ _ (f2 x hx),aa.2.1⟩) fun a ha b hb=>?_
  rcases cI.1 hb with rfl|hb
  .exact f1 a ha
  .exact aa.2.2 a ha b hb
 .have:=(Ju.refl (lt:=lt) R).app (Ju.swap O (u:=U) (v:=[y]) (fun a ha b hb=>by rw[e'.1 hb];exact f2 a ha));rw[J];simpa using this
end
section
variable {α:Type}[Inhabited α]{cmp:α->α->Option Int}{lt:α->α->Bool}
variable{l:List α}
def QL{n i:Nat}(h:i<n)(d:α):(l.take n).getD i d=l.getD i d:=by
 rw[gdE,gdE,List.getElem?_take,if_pos h]
def jL(l:List α)(n i:Nat)(d:α):(l.drop n).getD i d=l.getD (n+i) d:=by
 rw[gdE,gdE,List.getElem?_drop]
variable{u v:List α}{t:Nat}
def ALY(O:mi lt)(hu:Ns lt u)(hv:Ns lt v){lo hi K:Nat}(P:Nat->Bool)(hP:∀c,lo<=c->c<hi->P c=lt (v.getD (K-1-c) a') (u.getD c a'))
  (h1:lo<=t) (h2:t<=hi) (az:hi<=u.length) (hK:∀c,lo<=c->c<hi->c+1<=K/\K-1-c<v.length) (ax:t<=K)
  (U:lo=0\/v.length<=K-lo) (aa:hi=u.length\/K<=hi) (s4:∀c,lo<=c->c<t->P c=dU) (s5:∀c,t<=c->c<hi->P c=cb) :
  (∀x∈u.drop t,∀y∈v.take (K-t),lt y x=cb)/\(∀x∈u.take t,∀y∈v.drop (K-t),lt y x=dU):=by
 constructor
 .intro x R y J;obtain⟨i,I,rfl⟩:=bS R;obtain⟨j,C,rfl⟩:=bS J;rw[←Cl I a',←Cl C a'];simp only[iZ,ev]at I C;rw[jL,QL n'];rcases gn t hi with q|q
  .have p:=s5 t (dx _) q;rw[hP t h1 q]at p;obtain⟨k1,k2⟩:=hK t h1 q;cases hq:lt (v.getD j a') (u.getD (t+i) a')with
   |true=>rfl
   | false=>
    have a:=Rr O hu (i:=t) (j:=t+i) n' n';have b:=Rr O hv (i:=j) (j:=K-1-t) n' k2;have:=O.trans _ _ _ (O.trans _ _ _ a hq) b;rw[this]at p;cases p
  .obtain rfl:t=hi:=n'
   rcases aa with e|e
   .omega
   .omega
 .intro x R y J;obtain⟨i,I,rfl⟩:=bS R;obtain⟨j,C,rfl⟩:=bS J;rw[←Cl I a',←Cl C a'];simp only[iZ,ev]at I C;rw[jL,QL n'];rcases gn lo t with q|q
  .have p:=s4 (t-1) n' n';rw[hP (t-1) n' n']at p;rw[show K-1-(t-1)=K-t by omega]at p;have a:=Rr O hu (i:=i) (j:=t-1) n' n';have b:=Rr O hv (i:=K-t) (j:=K-t+j) n' n';exact O.trans _ _ _ (O.trans _ _ _ a p) b
  .obtain rfl:t=lo:=n'
   rcases U with e|e
   .omega
   .omega
def Pq(h:Ns lt l)(n:Nat):Ns lt (l.take n):=fI (List.take_sublist n l) h
def Pr(h:Ns lt l)(n:Nat):Ns lt (l.drop n):=fI (iN n l) h
def ALD(O:mi lt){r:Nat}(hu:Ns lt u)(hv:Ns lt v)(J:∀x∈u.drop t,∀y∈v.take r,lt y x=cb)(h2:∀x∈u.take t,∀y∈v.drop r,lt y x=dU)
  {j w2:List α} (a1:Ns lt j) (U:Ju lt (u.take t++v.take r) j) (a2:Ns lt w2) (R:Ju lt (u.drop t++v.drop r) w2):Ns lt (j++w2)/\Ju lt (u++v) (j++w2):=by
 constructor
 .refine Sv a1 a2 fun x hx y hy=>?_
  have I:=cw.1 (show Ns lt (u.take t++u.drop t) by rw[bs];exact hu);have C:=cw.1 (show Ns lt (v.take r++v.drop r) by rw[bs];exact hv);rcases eL.1 (U.mem.1 hx)with p|p<;>rcases eL.1 (R.mem.1 hy)with q|q
  .exact I.2.2 x p y q
  .exact h2 x p y q
  .exact O.asym _ _ (J y q x p)
  .exact C.2.2 x p y q
 .have e:Ju lt ((u.take t++(u.drop t++v.take r))++v.drop r) ((u.take t++(v.take r++u.drop t))++v.drop r):=((Ju.refl _).app (Ju.swap O J)).app (Ju.refl _)
  have e1:(u.take t++(u.drop t++v.take r))++v.drop r=u++v:=by
   rw[←b',bs,b',bs]
  have e2:(u.take t++(v.take r++u.drop t))++v.drop r=(u.take t++v.take r)++(u.drop t++v.drop r):=p'
  rw[e1,e2]at e;exact e.trans (U.app R)
end
variable{α:Type}
def gTL[Inhabited α](cmp:α->α->Option Int)(n_:Nat)(data:List α)(a m b s:Int):Option (List α) :=if((b7 (s<m))&&(b7 (m<(bN.wrap ((bN.wrap ((hF (a+b))+m))-s)))))then(kh data s m (bN.wrap ((bN.wrap ((hF (a+b))+m))-s))).bind fun j=>if((b7 (a<s))&&(b7 (s<(hF (a+b)))))then(Do cmp n_ j a s (hF (a+b))).bind fun I=>if((b7 ((hF (a+b))<(bN.wrap ((bN.wrap ((hF (a+b))+m))-s))))&&(b7 ((bN.wrap ((bN.wrap ((hF (a+b))+m))-s))<b)))then(Do cmp n_ I (hF (a+b)) (bN.wrap ((bN.wrap ((hF (a+b))+m))-s)) b).bind fun aa=>ck (aa.length==data.length)<|some aa else ck (I.length==data.length)<|some I else if((b7 ((hF (a+b))<(bN.wrap ((bN.wrap ((hF (a+b))+m))-s))))&&(b7 ((bN.wrap ((bN.wrap ((hF (a+b))+m))-s))<b)))then(Do cmp n_ j (hF (a+b)) (bN.wrap ((bN.wrap ((hF (a+b))+m))-s)) b).bind fun U=>ck (U.length==data.length)<|some U else ck (j.length==data.length)<|some j else if((b7 (a<s))&&(b7 (s<(hF (a+b)))))then(Do cmp n_ data a s (hF (a+b))).bind fun C=>if((b7 ((hF (a+b))<(bN.wrap ((bN.wrap ((hF (a+b))+m))-s))))&&(b7 ((bN.wrap ((bN.wrap ((hF (a+b))+m))-s))<b)))then(Do cmp n_ C (hF (a+b)) (bN.wrap ((bN.wrap ((hF (a+b))+m))-s)) b).bind fun R=>ck (R.length==data.length)<|some R else ck (C.length==data.length)<|some C else if((b7 ((hF (a+b))<(bN.wrap ((bN.wrap ((hF (a+b))+m))-s))))&&(b7 ((bN.wrap ((bN.wrap ((hF (a+b))+m))-s))<b)))then(Do cmp n_ data (hF (a+b)) (bN.wrap ((bN.wrap ((hF (a+b))+m))-s)) b).bind fun J=>ck (J.length==data.length)<|some J else bz data
def AEG[Inhabited α](cmp:α->α->Option Int)(j:Nat)(data:List α)(a m b:Int)(C:(bN.wrap (m-a)==1)=dU)(h2:(bN.wrap (b-m)==1)=dU):
  Do cmp (j+1) data a m b=if b7 ((hF (a+b))<m)=cb then(AE (OC cmp data a m b (hF (a+b)) (bN.wrap ((hF (a+b))+m)) (bN.wrap ((bN.wrap ((hF (a+b))+m))-1))) ((bN.wrap ((bN.wrap ((hF (a+b))+m))-b)),(hF (a+b)))).bind (gTL cmp j data a m b)else(AE (TI cmp data a m b (hF (a+b)) (bN.wrap ((hF (a+b))+m)) (bN.wrap ((bN.wrap ((hF (a+b))+m))-1))) (a,m)).bind (gTL cmp j data a m b):=by
 unfold Do;rw[C,h2,if_neg p',if_neg p',VL (show(0:Int)<=1 by omega),AB];rfl
section
variable {α:Type}[Inhabited α]{cmp:α->α->Option Int}{lt:α->α->Bool}
def AEB{k A U V K t:Nat}{D D1 D2 D3:List α}(hK:K=(U+V)/2)(hb:A+U+V<=1099511627776)(aa:t<=K)(R:t<=U)
  (I:t<U/\t<K->kh D ((A+t:Nat):Int) ((A+U:Nat):Int) ((A+U+(K-t):Nat):Int)=bz D1) (J:¬(t<U/\t<K)->D=D1)
  (C:0<t/\t<K->Do cmp k D1 (A:Int) ((A+t:Nat):Int) ((A+K:Nat):Int)=bz D2) (p2:¬(0<t/\t<K)->D1=D2)
  (j:t<U/\K-t<V->Do cmp k D2 ((A+K:Nat):Int) ((A+U+(K-t):Nat):Int) ((A+U+V:Nat):Int)=bz D3) (q2:¬(t<U/\K-t<V)->D2=D3)
  (hl:D3.length=D.length):gTL cmp k D (A:Int) ((A+U:Nat):Int) ((A+U+V:Nat):Int) ((A+t:Nat):Int)=bz D3:=by
 have hm:hF ((A:Int)+((A+U+V:Nat):Int))=((A+K:Nat):Int):=by
  rw[WB n'];congr 1;omega
 have hn:bN.wrap (((A+K:Nat):Int)+((A+U:Nat):Int))=((A+K+(A+U):Nat):Int):=by rw[Z1 n'];omega
 have he:bN.wrap (((A+K+(A+U):Nat):Int)-((A+t:Nat):Int))=((A+U+(K-t):Nat):Int):=by rw[Z1 n'];omega
 have hlen:(D3.length==D.length)=cb:=by rw[hl];simp
 have b1:b7 (((A+t:Nat):Int)<((A+U:Nat):Int))=b7 (t<U):=by rw[cm];simp only[dtE];omega
 have b2:b7 (((A+U:Nat):Int)<((A+U+(K-t):Nat):Int))=b7 (t<K):=by rw[cm];simp only[dtE];omega
 have b3:b7 ((A:Int)<((A+t:Nat):Int))=b7 (0<t):=by rw[cm];simp only[dtE];omega
 have b4:b7 (((A+t:Nat):Int)<((A+K:Nat):Int))=b7 (t<K):=by rw[cm];simp only[dtE];omega
 have b5:b7 (((A+K:Nat):Int)<((A+U+(K-t):Nat):Int))=b7 (t<U):=by rw[cm];simp only[dtE];omega
 have b6:b7 (((A+U+(K-t):Nat):Int)<((A+U+V:Nat):Int))=b7 (K-t<V):=by rw[cm];simp only[dtE];omega
 unfold gTL;simp only[hm,hn,he,b1,b2,b3,b4,b5,b6];have g1:(b7 (t<U)&&b7 (t<K))=b7 (t<U/\t<K):=by rw[cm];simp
 have g2:(b7 (0<t)&&b7 (t<K))=b7 (0<t/\t<K):=by rw[cm];simp
 have g3:(b7 (t<U)&&b7 (K-t<V))=b7 (t<U/\K-t<V):=by rw[cm];simp
 simp only[g1,g2,g3]
 by_cases c1:t<U/\t<K
 .have I:=I c1
  by_cases c2:0<t/\t<K
  .have C:=C c2
   by_cases c3:t<U/\K-t<V
   .have j:=j c3;simp only[c1,c2,c3,and_self,decide_true,if_true,I,C,j,en,hlen,AB]
   .have q2:=q2 c3;subst q2;simp only[decide_eq_true c1,decide_eq_true c2,decide_eq_false c3,if_true,iR,if_false,I,C,en,hlen,AB]
  .have p2:=p2 c2;subst p2
   by_cases c3:t<U/\K-t<V
   .have j:=j c3;simp only[decide_eq_true c1,decide_eq_false c2,decide_eq_true c3,if_true,iR,if_false,I,j,en,hlen,AB]
   .have q2:=q2 c3;subst q2;simp only[decide_eq_true c1,decide_eq_false c2,decide_eq_false c3,if_true,iR,if_false,I,en,hlen,AB]
 .have J:=J c1;subst J
  by_cases c2:0<t/\t<K
  .have C:=C c2
   by_cases c3:t<U/\K-t<V
   .have j:=j c3;simp only[decide_eq_false c1,decide_eq_true c2,decide_eq_true c3,if_true,iR,if_false,C,j,en,hlen,AB]
   .have q2:=q2 c3;subst q2;simp only[decide_eq_false c1,decide_eq_true c2,decide_eq_false c3,if_true,iR,if_false,C,en,hlen,AB]
  .have p2:=p2 c2;subst p2
   by_cases c3:t<U/\K-t<V
   .have j:=j c3;simp only[decide_eq_false c1,decide_eq_false c2,decide_eq_true c3,if_true,iR,if_false,j,en,hlen,AB]
   .have q2:=q2 c3;subst q2;simp only[decide_eq_false c1,decide_eq_false c2,decide_eq_false c3,if_true,iR,if_false]
def iG(hc:QW cmp lt)(O:mi lt)(C u v I:List α)(hu:Ns lt u)(hv:Ns lt v){K lo hi:Nat}(hl:(C++(u++(v++I))).length<=1099511627776)
  {step:Int×Int->Option ((Int×Int)⊕Int)} (J:∀q:Int×Int,step q=OC cmp (C++(u++(v++I))) 0 0 0 0 0 ((C.length+K+(C.length+u.length)-1:Nat):Int) q)
  (h1:lo<=hi) (az:hi<=u.length) (hK:∀c,lo<=c->c<hi->c+1<=K/\K-1-c<v.length) :
  ∃ t,lo<=t/\t<=hi/\AE step (((C.length+lo:Nat):Int),((C.length+hi:Nat):Int))=bz ((C.length+t:Nat):Int) /\
   (∀c,lo<=c->c<t->lt (v.getD (K-1-c) a') (u.getD c a')=dU)/\(∀c,t<=c->c<hi->lt (v.getD (K-1-c) a') (u.getD c a')=cb):=by
 have hlen:(C++(u++(v++I))).length=C.length+(u.length+(v.length+I.length)):=p'
 obtain⟨s,s1,s2,s3,s4,s5⟩:=bx (step:=step) (fun h=>lt (v.getD (K-1-(h-C.length)) a') (u.getD (h-C.length) a')) (C.length+lo) (C.length+hi)
  (fun c d h1 h2 h3 hp=>by
   cases R:lt (v.getD (K-1-(d-C.length)) a') (u.getD (d-C.length) a')with
   |true=>rfl
   | false=>
    obtain⟨k1,k2⟩:=hK (c-C.length) n' n';have a:=Rr O hu (i:=c-C.length) (j:=d-C.length) n' n';have b:=Rr O hv (i:=K-1-(d-C.length)) (j:=K-1-(c-C.length)) n' k2;have:=O.trans _ _ _ (O.trans _ _ _ a R) b;rw[this]at hp;cases hp)
  (fun i j h2 h3 h4=>by
   have hh:=WB (i:=i) (j:=j) n';obtain⟨k1,k2⟩:=hK ((i+j)/2-C.length) n' n';obtain⟨q,R,U⟩:=hc (v.getD (K-1-((i+j)/2-C.length)) a') (u.getD ((i+j)/2-C.length) a');have e0:b7 ((i:Int)<(j:Int))=true:=decide_eq_true n';have wp:bN.wrap (((C.length+K+(C.length+u.length)-1:Nat):Int)-(((i+j)/2:Nat):Int))=((C.length+(u.length+(K-1-((i+j)/2-C.length))):Nat):Int):=by rw[Z1 n'];omega
   have o1:AS (((i+j)/2:Nat):Int) (C++(u++(v++I))).length=true:=Z2 n';have o2:AS ((C.length+(u.length+(K-1-((i+j)/2-C.length))):Nat):Int) (C++(u++(v++I))).length=true:=Z2 n'
   have gu:(C++(u++(v++I))).getD ((i+j)/2) a'=u.getD ((i+j)/2-C.length) a':=by
    have:=uf C u (v++I) (t:=(i+j)/2-C.length) n';rw[←this];congr 1;omega
   have gv:(C++(u++(v++I))).getD (C.length+(u.length+(K-1-((i+j)/2-C.length)))) a'=v.getD (K-1-((i+j)/2-C.length)) a':=by
    have:=uf (C++u) v I (t:=K-1-((i+j)/2-C.length)) k2;rw[←this,b'];congr 1;simp;omega
   rw[J];unfold OC;simp only[e0,if_true,hh,wp,o1,o2,AB,VL (show(0:Int)<=1 by omega),h9,gu,gv,R,en,U,AW (show(i+j)/2<9223372036854775807 by omega)];cases lt (v.getD (K-1-((i+j)/2-C.length)) a') (u.getD ((i+j)/2-C.length) a')<;>rfl)
  (fun i=>by rw[J];unfold OC;dsimp only;rw[if_neg p']) n'
 refine⟨s-C.length,n',n',?_,fun c a b=>?_,fun c a b=>?_⟩
 .rw[s3];congr 1;omega
 .have:=s4 (C.length+c) n' n';rw[show C.length+c-C.length=c by omega]at this;exact this
 .have:=s5 (C.length+c) n' n';rw[show C.length+c-C.length=c by omega]at this;exact this
def qS{l:List α}(h:l.length<=1):Ns lt l:=by
 match l,h with
 |[],_=>exact ew
 |[x],_=>exact hN _ _
def zK(hc:QW cmp lt)(O:mi lt):∀(k:Nat) (pre u v j:List α),0<u.length->0<v.length->u.length+v.length<=2^k->Ns lt u->Ns lt v->(pre++(u++(v++j))).length<=1099511627776 ->
  ∃w,Do cmp k (pre++(u++(v++j))) (pre.length:Int) ((pre.length+u.length:Nat):Int) ((pre.length+u.length+v.length:Nat):Int)=bz (pre++(w++j))/\Ns lt w/\Ju lt (u++v) w:=by
 intro k
 induction k with
 |zero=>intro pre u v j h1 h2 h3;simp at h3;omega
 | succ k ih=>
  intro pre u v j h1 h2 h3 hu I hl;have hlen:(pre++(u++(v++j))).length=pre.length+(u.length+(v.length+j.length)):=p'
  by_cases c1:u.length=1
  .obtain⟨x,rfl⟩:∃x,u=[x]:=hQ.1 c1;exact zJ hc O k pre x v j I hl
  by_cases c2:v.length=1
  .obtain⟨y,rfl⟩:∃y,v=[y]:=hQ.1 c2;exact wd hc O k pre u y j hu c1 hl
  have bb:2^(k+1)=2*2^k:=by rw[Nat.pow_succ];omega
  obtain⟨K,hK⟩:∃K,K=(u.length+v.length)/2:=⟨_,rfl⟩
  have w1:(bN.wrap (((pre.length+u.length:Nat):Int)-(pre.length:Int))==1)=dU:=by
   rw[Z1 n'];exact beq_eq_false_iff_ne.2 n'
  have w2:(bN.wrap (((pre.length+u.length+v.length:Nat):Int)-((pre.length+u.length:Nat):Int))==1)=dU:=by
   rw[Z1 n'];exact beq_eq_false_iff_ne.2 n'
  have fin:∀lo hi t:Nat,lo<=t->t<=hi->hi<=u.length->(∀c,lo<=c->c<hi->c+1<=K/\K-1-c<v.length)->t<=K->(lo=0\/v.length<=K-lo)->(hi=u.length\/K<=hi)->K-t<=v.length ->
    (∀c,lo<=c->c<t->lt (v.getD (K-1-c) a') (u.getD c a')=dU)->(∀c,t<=c->c<hi->lt (v.getD (K-1-c) a') (u.getD c a')=cb) ->
    ∃w,gTL cmp k (pre++(u++(v++j))) (pre.length:Int) ((pre.length+u.length:Nat):Int) ((pre.length+u.length+v.length:Nat):Int) ((pre.length+t:Nat):Int)=bz (pre++(w++j))/\Ns lt w/\Ju lt (u++v) w:=by
   intro lo hi t a1 a2 a3 a4 a5 a6 a7 a8 a9 az;obtain⟨f1,f2⟩:=ALY O hu I (fun c=>lt (v.getD (K-1-c) a') (u.getD c a')) (fun c _ _=>rfl) a1 a2 a3 a4 a5 a6 a7 a9 az;have ao:(u.take t).length=t:=t'
   have aa:(u.drop t).length=u.length-t:=p'
   have R:(v.take (K-t)).length=K-t:=t'
   have aj:(v.drop (K-t)).length=v.length-(K-t):=p'
   obtain⟨C,e1,b1,b2,b3⟩:∃C,C.length=K/\(0<t/\t<K->Do cmp k (pre++(u.take t++(v.take (K-t)++(u.drop t++(v.drop (K-t)++j))))) (pre.length:Int) ((pre.length+t:Nat):Int) ((pre.length+K:Nat):Int)=bz (pre++(C++(u.drop t++(v.drop (K-t)++j))))) /\
     Ns lt C/\(Ju lt (u.take t++v.take (K-t)) C/\(¬(0<t/\t<K)->u.take t++v.take (K-t)=C)):=by
    by_cases q:0<t/\t<K
    .obtain⟨w,k1,k2,k3⟩:=ih pre (u.take t) (v.take (K-t)) (u.drop t++(v.drop (K-t)++j)) n' n' n' (Pq hu _) (Pq I _) t';rw[ao,R,show pre.length+t+(K-t)=pre.length+K by omega]at k1;exact⟨w,by rw[k3.len];simp;omega,fun _=>k1,k2,k3,fun c=>absurd q c⟩
    .refine⟨u.take t++v.take (K-t),t',fun c=>absurd c q,?_,Ju.refl _,fun _=>rfl⟩;rcases g' t with z|z
     .have:u.take t=[]:=bX.1 n';rw[this];exact Pq I _
     .have:v.take (K-t)=[]:=bX.1 n';rw[this,ed];exact Pq hu _
   obtain⟨b3,b4⟩:=b3;have au:(pre++C).length=pre.length+K:=t'
   obtain⟨J,e2,d1,d2,d3,d4⟩:∃J,J.length=u.length+v.length-K/\(t<u.length/\K-t<v.length->Do cmp k (pre++(C++(u.drop t++(v.drop (K-t)++j)))) ((pre.length+K:Nat):Int) ((pre.length+u.length+(K-t):Nat):Int) ((pre.length+u.length+v.length:Nat):Int)=bz (pre++(C++(J++j)))) /\
     Ns lt J/\Ju lt (u.drop t++v.drop (K-t)) J/\(¬(t<u.length/\K-t<v.length)->u.drop t++v.drop (K-t)=J):=by
    by_cases q:t<u.length/\K-t<v.length
    .obtain⟨w,k1,k2,k3⟩:=ih (pre++C) (u.drop t) (v.drop (K-t)) j n' n' n' (Pr hu _) (Pr I _) t';rw[au,aa,aj,show pre.length+K+(u.length-t)=pre.length+u.length+(K-t) by omega,show pre.length+u.length+(K-t)+(v.length-(K-t))=pre.length+u.length+v.length by omega]at k1;exact⟨w,by rw[k3.len];simp;omega,fun _=>by simpa using k1,k2,k3,fun c=>absurd q c⟩
    .refine⟨u.drop t++v.drop (K-t),t',fun c=>absurd c q,?_,Ju.refl _,fun _=>rfl⟩;rcases gn t u.length with z|z
     .have:v.drop (K-t)=[]:=bX.1 n';rw[this,ed];exact Pr hu _
     .have:u.drop t=[]:=bX.1 n';rw[this];exact Pr I _
   obtain⟨m1,m2⟩:=ALD O hu I f1 f2 b2 b3 d2 d3;refine⟨C++J,?_,m1,m2⟩
   have hD:pre++(u++(v++j))=(pre++u.take t)++(u.drop t++(v.take (K-t)++(v.drop (K-t)++j))):=by
    have:(pre++u.take t)++(u.drop t++(v.take (K-t)++(v.drop (K-t)++j)))=pre++((u.take t++u.drop t)++((v.take (K-t)++v.drop (K-t))++j)):=by simp only[b']
    rw[this,bs,bs]
   have:=AEB (cmp:=cmp) (k:=k) (A:=pre.length) (U:=u.length) (V:=v.length) (K:=K) (t:=t) (D:=pre++(u++(v++j))) (D1:=pre++(u.take t++(v.take (K-t)++(u.drop t++(v.drop (K-t)++j)))))
    (D2:=pre++(C++(u.drop t++(v.drop (K-t)++j)))) (D3:=pre++(C++(J++j))) hK n' a5 n'
    (fun q=>by
     have r:=AKc (pre++u.take t) (u.drop t) (v.take (K-t)) (v.drop (K-t)++j) n' n' (by rw[←hD];exact hl);have l1:(pre++u.take t).length=pre.length+t:=t'
     rw[←hD,l1,aa,R,show pre.length+t+(u.length-t)=pre.length+u.length by omega]at r;rw[r];simp)
    (fun q=>by
     rw[hD];rcases gn t u.length with z|z
     .have:v.take (K-t)=[]:=bX.1 n';rw[this];simp
     .have:u.drop t=[]:=bX.1 n';rw[this];simp)
    b1 (fun q=>by rw[←b4 q];simp) d1 (fun q=>by rw[←d4 q];simp) t'
   rw[this];simp
  rw[AEG cmp k _ _ _ _ w1 w2]
  have hm:hF ((pre.length:Int)+((pre.length+u.length+v.length:Nat):Int))=((pre.length+K:Nat):Int):=by
   rw[WB n'];congr 1;omega
  have hn:bN.wrap (((pre.length+K:Nat):Int)+((pre.length+u.length:Nat):Int))=((pre.length+K+(pre.length+u.length):Nat):Int):=by rw[Z1 n'];omega
  have hp:bN.wrap (((pre.length+K+(pre.length+u.length):Nat):Int)-1)=((pre.length+K+(pre.length+u.length)-1:Nat):Int):=by rw[Z1 n'];omega
  simp only[hm,hn,hp]
  by_cases c3:K<u.length
  .rw[if_pos (decide_eq_true n')];have hs:bN.wrap (((pre.length+K+(pre.length+u.length):Nat):Int)-((pre.length+u.length+v.length:Nat):Int))=((pre.length+(K-v.length):Nat):Int):=by rw[Z1 n'];omega
   rw[hs];obtain⟨t,t1,t2,t3,t4,t5⟩:=iG hc O pre u v j hu I (K:=K) (lo:=K-v.length) (hi:=K) hl (step:=OC cmp (pre++(u++(v++j))) (pre.length:Int) ((pre.length+u.length:Nat):Int) ((pre.length+u.length+v.length:Nat):Int) ((pre.length+K:Nat):Int) ((pre.length+K+(pre.length+u.length):Nat):Int) ((pre.length+K+(pre.length+u.length)-1:Nat):Int)) (fun q=>rfl) n' n' (fun c x y=>n');rw[t3,en];exact fin (K-v.length) K t t1 t2 n' (fun c x y=>n') t2 (.inr n') (.inr (dx _)) n' t4 t5
  .rw[if_neg t'];obtain⟨t,t1,t2,t3,t4,t5⟩:=iG hc O pre u v j hu I (K:=K) (lo:=0) (hi:=u.length) hl (step:=TI cmp (pre++(u++(v++j))) (pre.length:Int) ((pre.length+u.length:Nat):Int) ((pre.length+u.length+v.length:Nat):Int) ((pre.length+K:Nat):Int) ((pre.length+K+(pre.length+u.length):Nat):Int) ((pre.length+K+(pre.length+u.length)-1:Nat):Int)) (fun q=>rfl) n' n' (fun c x y=>n');rw[Nat.add_zero]at t3;rw[t3,en];exact fin 0 u.length t t1 t2 (dx _) (fun c x y=>n') n' (.inl rfl) (.inl rfl) n' t4 t5
end
section
variable {α:Type}[Inhabited α]{cmp:α->α->Option Int}{lt:α->α->Bool}
def oE{x:Nat}(h:x<=4611686018427387904):x<=2^64:=hS h x'
def TX(lt:α->α->Bool)(n:Nat)(d:List α):Prop:=∀k,Ns lt ((d.drop (k*n)).take n)
variable{n:Nat}{d:List α}
def OX(h:Ns lt d):TX lt n d:=fun k=>Pq (Pr h _) _
def UK(h:TX lt n d):Ns lt (d.take n):=by simpa using h 0
def VM(h:TX lt n d)(j:d.length<=n):Ns lt d:=by
 have:=UK h
 rwa [gk j]at this
def iJ(h:TX lt n d)(q:Nat):TX lt n (d.drop (q*n)):=fun k=>by
 rw[fB,←hz];exact h (q+k)
def Ry{q:Nat}{a b:List α}(C:a.length=q*n)(I:TX lt n a)(h2:TX lt n b):TX lt n (a++b):=fun k=>by
 rcases gn k q with c|c
 .have:(k+1)*n<=q*n:=Nat.mul_le_mul_right _ c;rw[hz,Nat.one_mul]at this;rw[List.drop_append_of_le_length n',List.take_append_of_le_length t'];exact I k
 .obtain⟨j,rfl⟩:∃j,k=q+j:=⟨k-q,n'⟩;rw[hz,←C,←fB,List.drop_left];exact h2 j
def AFA(hc:QW cmp lt)(O:mi lt)(n:Nat)(hn:n<=1099511627776):∀(N:Nat) (dn rest:List α) (q:Nat),rest.length<=N->dn.length=q*20->(dn++rest).length=n->TX lt 20 dn ->
  ∃(C j:List α) (R:Nat),AE (Mb cmp (n:Int) 20) (dn++rest,(dn.length:Int),((dn.length+20:Nat):Int))=bz (C++j,(C.length:Int))/\TX lt 20 C/\C.length=R*20/\j.length<20/\Ju lt (dn++rest) (C++j):=by
 intro N
 induction N with
 | zero=>
  intro dn rest q h1 h2 h3 J;refine⟨dn,rest,q,Ai ?_,J,h2,n',Ju.refl _⟩;have:(dn++rest).length=dn.length+rest.length:=ct;unfold Mb;dsimp only;rw[if_neg t']
 | succ N ih=>
  intro dn rest q h1 h2 h3 J;have hlen:(dn++rest).length=dn.length+rest.length:=ct
  by_cases c:20<=rest.length
  .obtain⟨w,w1,w2,U⟩:=kS hc O dn (rest.take 20) (rest.drop 20) (by rw[bs];omega);have lw:w.length=20:=by rw[U.len];simp;omega
   have I:(rest.take 20).length=20:=t'
   rw[bs,I]at w1
   have st:Mb cmp (n:Int) 20 (dn++rest,(dn.length:Int),((dn.length+20:Nat):Int))=bz (.inl ((dn++w)++rest.drop 20,((dn++w).length:Int),(((dn++w).length+20:Nat):Int))):=by
    have e0:b7 (((dn.length+20:Nat):Int)<=(n:Int))=true:=decide_eq_true n';have w4:bN.wrap (((dn.length+20:Nat):Int)+20)=(((dn++w).length+20:Nat):Int):=by rw[Z1 n'];simp[lw];try omega
    unfold Mb;simp only[e0,if_true,w1,en,w4];have:((dn.length+20:Nat):Int)=((dn++w).length:Int):=by simp[lw]
    rw[this,b']
   rw[Aq st];obtain⟨C,j,R,k1,k2,k3,k4,k5⟩:=ih (dn++w) (rest.drop 20) (q+1) t' (by simp[lw,h2];omega) (by simp[lw];simp at h3;omega) (Ry h2 J (OX w2));refine⟨C,j,R,k1,k2,k3,k4,Ju.trans ?_ k5⟩;have:=((Ju.refl (lt:=lt) dn).app U).app (Ju.refl (rest.drop 20))
   rwa [b' dn (rest.take 20),bs]at this
  .refine⟨dn,rest,q,Ai ?_,J,h2,n',Ju.refl _⟩;unfold Mb;dsimp only;rw[if_neg t']
def AEx(hc:QW cmp lt)(O:mi lt)(n j:Nat)(hn:n<=1099511627776)(hb:1<=j)(bb:j<n):∀(N:Nat) (dn rest:List α) (q:Nat),rest.length<=N->dn.length=q*(2*j)->(dn++rest).length=n->TX lt (2*j) dn->TX lt j rest ->
  ∃(I C:List α) (U:Nat),AE (Lh cmp (n:Int) (j:Int)) (dn++rest,(dn.length:Int),((dn.length+2*j:Nat):Int))=bz (I++C,(I.length:Int))/\TX lt (2*j) I/\I.length=U*(2*j)/\C.length<2*j/\TX lt j C/\Ju lt (dn++rest) (I++C):=by
 intro N
 induction N with
 | zero=>
  intro dn rest q h1 h2 h3 R J;refine⟨dn,rest,q,Ai ?_,R,h2,n',J,Ju.refl _⟩;have:(dn++rest).length=dn.length+rest.length:=ct;unfold Lh;dsimp only;rw[if_neg t']
 | succ N ih=>
  intro dn rest q h1 h2 h3 R J;have hlen:(dn++rest).length=dn.length+rest.length:=ct
  by_cases c:2*j<=rest.length
  .have hr:rest=rest.take j++((rest.drop j).take j++rest.drop (2*j)):=by
    have:rest.drop (2*j)=(rest.drop j).drop j:=by rw[fB];congr 1;omega
    rw[this,bs,bs]
   have lu:(rest.take j).length=j:=t'
   have lv:((rest.drop j).take j).length=j:=t'
   obtain⟨w,w1,w2,w3⟩:=zK hc O 64 dn (rest.take j) ((rest.drop j).take j) (rest.drop (2*j)) n' n' (by rw[lu,lv];exact oE n') (UK J) (by simpa using J 1) (by rw[←hr];omega);rw[←hr,lu,lv]at w1;have lw:w.length=2*j:=by rw[w3.len];simp;omega
   have st:Lh cmp (n:Int) (j:Int) (dn++rest,(dn.length:Int),((dn.length+2*j:Nat):Int))=bz (.inl ((dn++w)++rest.drop (2*j),((dn++w).length:Int),(((dn++w).length+2*j:Nat):Int))):=by
    have e0:b7 (((dn.length+2*j:Nat):Int)<=(n:Int))=true:=decide_eq_true n';have w4:bN.wrap (((dn.length+2*j:Nat):Int)+bN.wrap (2*(j:Int)))=(((dn++w).length+2*j:Nat):Int):=by rw[Z1 (n:=2*(j:Int)) n',Z1 n'];simp[lw];try omega
    have w5:bN.wrap ((dn.length:Int)+(j:Int))=((dn.length+j:Nat):Int):=by rw[Z1 n'];simp
    have w6:oh cmp (dn++rest) (dn.length:Int) ((dn.length+j:Nat):Int) ((dn.length+2*j:Nat):Int)=bz (dn++(w++rest.drop (2*j))):=by
     unfold oh;rw[←w1];congr 2;omega
    unfold Lh;simp only[e0,if_true,w5,w6,en,w4];have:((dn.length+2*j:Nat):Int)=((dn++w).length:Int):=by simp[lw]
    rw[this,b']
   rw[Aq st];obtain⟨I,C,U,k1,k2,k3,k4,k5,k6⟩:=ih (dn++w) (rest.drop (2*j)) (q+1) t' (by rw[hz];simp[lw,h2]) (by simp[lw];simp at h3;omega) (Ry h2 R (OX w2)) (iJ J 2);refine⟨I,C,U,k1,k2,k3,k4,k5,Ju.trans ?_ k6⟩;have:=((Ju.refl (lt:=lt) dn).app w3).app (Ju.refl (rest.drop (2*j)));rw[b' dn,b' (rest.take j),←hr]at this;exact this
  .refine⟨dn,rest,q,Ai ?_,R,h2,n',J,Ju.refl _⟩;unfold Lh;dsimp only;rw[if_neg t']
def AEy(hc:QW cmp lt)(O:mi lt)(n:Nat)(hn:n<=1099511627776):∀(N:Nat) (d:List α) (j:Nat),n-j<=N->1<=j->j<=4398046511104->d.length=n->TX lt j d ->
  ∃U,AE (Ka cmp (n:Int)) (d,(j:Int))=bz U/\Ns lt U/\Ju lt d U:=by
 intro N
 induction N with
 | zero=>
  intro d j h1 h2 ae h3 h4;refine⟨d,Ai ?_,VM h4 n',Ju.refl _⟩;unfold Ka;dsimp only;rw[if_neg t']
 | succ N ih=>
  intro d j h1 h2 ae h3 h4
  by_cases c:j<n
  .obtain⟨dn,rest,q,k1,k2,k3,k4,k5,k6⟩:=AEx hc O n j hn h2 c d.length [] d 0 (dx _) p' (by simpa using h3) (OX ew) h4;have C:Ju lt d (dn++rest):=by simpa using k6
   have hl:dn.length+rest.length=n:=by have:=C.len;rw[ct]at this;omega
   have e0:b7 ((j:Int)<(n:Int))=true:=decide_eq_true n';have wb:bN.wrap (2*(j:Int))=((2*j:Nat):Int):=by rw[Z1 n'];omega
   have I:bN.wrap ((j:Int)*2)=((2*j:Nat):Int):=by rw[Z1 n'];omega
   have wm:bN.wrap ((dn.length:Int)+(j:Int))=((dn.length+j:Nat):Int):=by rw[Z1 n'];simp
   have R:AE (Lh cmp (n:Int) (j:Int)) (d,0,((2*j:Nat):Int))=bz (dn++rest,(dn.length:Int)):=by
    have:=k1;simp only[ea,hC,hR]at this;exact this
   obtain⟨d2,s1,s2,s3,s4⟩:∃d2,Ka cmp (n:Int) (d,(j:Int))=bz (.inl (d2,((2*j:Nat):Int)))/\TX lt (2*j) d2/\Ju lt d d2/\d2.length=n:=by
    by_cases m:dn.length+j<n
    .have hr:rest=rest.take j++(rest.drop j++[]):=by rw[ed,bs]
     have lu:(rest.take j).length=j:=t'
     have lv:(rest.drop j).length=rest.length-j:=p'
     have hv:Ns lt (rest.drop j):=VM (by simpa using iJ k5 1) t';obtain⟨w,w1,w2,w3⟩:=zK hc O 64 dn (rest.take j) (rest.drop j) [] n' n' (oE n') (UK k5) hv (by rw[←hr];simp;omega);rw[←hr,lu,lv]at w1
     have w6:oh cmp (dn++rest) (dn.length:Int) ((dn.length+j:Nat):Int) (n:Int)=bz (dn++w):=by
      have e:dn.length+j+(rest.length-j)=n:=n'
      rw[e,ed]at w1;exact w1
     have J:Ju lt rest w:=by rwa [bs]at w3
     have lw:w.length=rest.length:=J.len;refine⟨dn++w,?_,Ry k3 k2 (OX w2),C.trans ((Ju.refl _).app J),t'⟩;unfold Ka;simp only[e0,if_true,wb,R,en,wm];rw[if_pos (decide_eq_true n'),w6,en,I]
    .refine⟨dn++rest,?_,Ry k3 k2 (OX (VM k5 n')),C,t'⟩;unfold Ka;simp only[e0,if_true,wb,R,en,wm];rw[if_neg t',I]
   rw[Aq s1];obtain⟨U,t1,t2,t3⟩:=ih d2 (2*j) n' n' n' s4 s2;exact⟨U,t1,t2,s3.trans t3⟩
  .refine⟨d,Ai ?_,VM h4 n',Ju.refl _⟩;unfold Ka;dsimp only;rw[if_neg t']
def AEH(U:QW cmp lt)(O:mi lt){d:List α}(hl:d.length<=1099511627776):∃j,fZ cmp d (d.length:Int)=bz j/\Ns lt j/\Ju lt d j:=by
 obtain⟨dn,rest,q,k1,k2,k3,k4,k5⟩:=AFA U O d.length hl d.length [] d 0 (dx _) p' p' (OX ew);have C:Ju lt d (dn++rest):=by simpa using k5
 have R:dn.length+rest.length=d.length:=by have:=C.len;rw[ct]at this;omega
 have J:AE (Mb cmp (d.length:Int) 20) (d,0,20)=bz (dn++rest,(dn.length:Int)):=by
  have:=k1;simp only[ea,hC,hR]at this;exact this
 obtain⟨w,w1,w2,w3⟩:=kS U O dn rest [] t';rw[ed,ed,R]at w1;have lw:w.length=rest.length:=w3.len;obtain⟨j,t1,t2,t3⟩:=AEy U O d.length hl d.length (dn++w) 20 n' n' n' t' (Ry k3 k2 (OX w2));refine⟨j,?_,t2,C.trans (((Ju.refl _).app w3).trans t3)⟩;unfold fZ;rw[J,en,w1,en];have I:AE (Ka cmp (d.length:Int)) (dn++w,20)=bz j:=t1;rw[I,en];have:(j.length==d.length)=cb:=by have:=t3.len;simp at this ⊢;omega
 rw[this,AB]
end
def Jl{σ ρ C R:Type}{step:σ->Option (σ⊕ρ)}{step':C->Option (C⊕R)}(r:σ->C)(I:ρ->R)
  (h:∀s,step' (r s)=(step s).map (ga r I)) (s:σ):AE step' (r s)=(AE step s).map I:=by
 have one:∀n s,Km step' n (r s)=(Km step n s).map I:=by
  intro n
  induction n with
  |zero=>intro s;rfl
  | succ n U=>
   intro s;simp only[Km,h s];cases step s with
   |none=>rfl
   | some o=>
    cases o with
    |inl s'=>exact U s'
    |inr r=>rfl
 cases hw:AE step s with
 | some y=>
  obtain⟨n,j⟩:=Jf hw;exact Mw (n:=n) (by rw[one,j];rfl)
 | none=>
  cases J:AE step' (r s)with
  |none=>rfl
  | some y=>
   obtain⟨n,j⟩:=Jf J;rw[one]at j;cases hi:Km step n s with
   |none=>rw[hi]at j;cases j
   |some z=>rw[Mw hi]at hw;cases hw
variable{α β:Type}
def RJ(c:Bool)(o:Option α)(g:α->β):(ck c o).map g=ck c (o.map g):=by cases c<;>rfl
def NI(c:Prop)[Decidable c](a b:Option α)(g:α->β):(if c then a else b).map g=if c then a.map g else b.map g:=by split<;>rfl
variable{γ:Type}
def KQ(o:Option α)(k:α->Option β)(g:β->γ):(o.bind k).map g=o.bind fun x=>(k x).map g:=by cases o<;>rfl
def KK(o:Option α)(h:α->β)(k:β->Option γ):(o.map h).bind k=o.bind fun x=>k (h x):=by cases o<;>rfl
section
variable {α β:Type}[Inhabited α][Inhabited β](f:β->α)
def Na(j:f a'=a')(l:List β)(i:Nat):(l.map f).getD i a'=f (l.getD i a'):=by
 rw[gdE,iI,gdE];cases l[i]? with
 |none=>exact j.symm
 |some x=>rfl
def ZC(l:List β)(i:Nat)(x:β):(l.map f).set i (f x)=(l.set i x).map f:=List.map_set.symm
def r1(f:β->α):List β×Int->List α×Int:=fun s=>(s.1.map f,s.2)
def r2(f:β->α):List β×Int×Int->List α×Int×Int:=fun s=>(s.1.map f,s.2)
def AKw(C:f a'=a')(cmp:α->α->Option Int)(a b i:Int)(s:List β×Int):NO cmp a b i (r1 f s)=(NO (fun x y=>cmp (f x) (f y)) a b i s).map (ga (r1 f) (cA f)):=by
 obtain⟨d,j⟩:=s;simp only[NO,r1,bI,Na f C,ZC,RJ,NI,bR,eu,et];try rfl
def AKx(j:f a'=a')(cmp:α->α->Option Int)(a b:Int)(s:List β×Int):NP cmp a b (r1 f s)=(NP (fun x y=>cmp (f x) (f y)) a b s).map (ga (r1 f) (cA f)):=by
 obtain⟨d,i⟩:=s;have:=Jl (r1 f) (cA f) (AKw f j cmp a b i) (d,i);simp only[r1]at this;simp only[NP,r1,this,KK,KQ,NI,bR,eu,et];try rfl
def AHD(j:f a'=a')(cmp:α->α->Option Int)(d:List β)(a b:Int):om cmp (d.map f) a b=(om (fun x y=>cmp (f x) (f y)) d a b).map (cA f):=by
 have:=Jl (r1 f) (cA f) (AKx f j cmp a b) (d,bN.wrap (a+1));simp only[r1]at this;simp only[om,this,KK,KQ,RJ,bR,bI];try rfl
def AKr(C:f a'=a')(a b n:Int)(s:List β×Int):PL a b n (r1 f s)=(PL a b n s).map (ga (r1 f) (cA f)):=by
 obtain⟨d,j⟩:=s;simp only[PL,r1,bI,Na f C,ZC,RJ,NI,bR,eu,et];try rfl
def AHC(j:f a'=a')(d:List β)(a b n:Int):ol (d.map f) a b n=(ol d a b n).map (cA f):=by
 have:=Jl (r1 f) (cA f) (AKr f j a b n) (d,0);simp only[r1]at this;simp only[ol,this,KK,KQ,RJ,bR,bI];try rfl
def AKv(C:f a'=a')(m:Int)(s:List β×Int×Int):NN m (r2 f s)=(NN m s).map (ga (r2 f) (r1 f)):=by
 obtain⟨d,i,j⟩:=s;simp only[NN,r1,r2,AHC f C,KK,KQ,NI,bR,eu,et];try rfl
def AOZ(j:f a'=a')(d:List β)(a m b:Int):kh (d.map f) a m b=(kh d a m b).map (cA f):=by
 have:=Jl (r2 f) (r1 f) (AKv f j m) (d,bN.wrap (m-a),bN.wrap (b-m));simp only[r1,r2]at this;simp only[kh,r1,this,AHC f j,KK,KQ,RJ,bR,bI];try rfl
def AKq(C:f a'=a')(cmp:α->α->Option Int)(d:List β)(a:Int):RB cmp (d.map f) a=RB (fun x y=>cmp (f x) (f y)) d a:=by
 funext ⟨i,j⟩
 simp only[RB,bI,Na f C];try rfl
def AKo(C:f a'=a')(cmp:α->α->Option Int)(d:List β)(a:Int):RA cmp (d.map f) a=RA (fun x y=>cmp (f x) (f y)) d a:=by
 funext ⟨i,j⟩
 simp only[RA,bI,Na f C];try rfl
def AKm(I:f a'=a')(cmp:α->α->Option Int)(d:List β)(a m b C n p:Int):OC cmp (d.map f) a m b C n p=OC (fun x y=>cmp (f x) (f y)) d a m b C n p:=by
 funext ⟨i,j⟩
 simp only[OC,bI,Na f I];try rfl
def AKl(I:f a'=a')(cmp:α->α->Option Int)(d:List β)(a m b C n p:Int):TI cmp (d.map f) a m b C n p=TI (fun x y=>cmp (f x) (f y)) d a m b C n p:=by
 funext ⟨i,j⟩
 simp only[TI,bI,Na f I];try rfl
def AEj(C:f a'=a')(i:Int)(s:List β×Int):NM i (r1 f s)=(NM i s).map (ga (r1 f) (cA f)):=by
 obtain⟨d,j⟩:=s;simp only[NM,r1,bI,Na f C,ZC,RJ,NI,bR,eu,et];try rfl
def AEi(C:f a'=a')(i:Int)(s:List β×Int):NL i (r1 f s)=(NL i s).map (ga (r1 f) (cA f)):=by
 obtain⟨d,j⟩:=s;simp only[NL,r1,bI,Na f C,ZC,RJ,NI,bR,eu,et];try rfl
def AKp(j:f a'=a')(i:Int)(d:List β)(k:Int):AE (NM i) (d.map f,k)=(AE (NM i) (d,k)).map (cA f):=Jl (r1 f) (cA f) (AEj f j i) (d,k)
def AKn(j:f a'=a')(i:Int)(d:List β)(k:Int):AE (NL i) (d.map f,k)=(AE (NL i) (d,k)).map (cA f):=Jl (r1 f) (cA f) (AEi f j i) (d,k)
def AAZ(j:f a'=a')(cmp:α->α->Option Int):∀(k:Nat) (d:List β) (a m b:Int),Do cmp k (d.map f) a m b=(Do (fun x y=>cmp (f x) (f y)) k d a m b).map (cA f)
 |0,_,_,_,_=>rfl
 | k+1,d,a,m,b=>by
  have C:=AAZ j cmp k;unfold Do;simp only[AKq f j,AKo f j,AKm f j,AKl f j,AKp f j,AKn f j,AOZ f j,C,KK,KQ,RJ,NI,bR,bI];try rfl
def AKu(I:f a'=a')(cmp:α->α->Option Int)(n C:Int)(s:List β×Int×Int):Mb cmp n C (r2 f s)=(Mb (fun x y=>cmp (f x) (f y)) n C s).map (ga (r2 f) (r1 f)):=by
 obtain⟨d,i,j⟩:=s;simp only[Mb,r1,r2,AHD f I,KK,KQ,NI,bR,eu,et];try rfl
def AKs(I:f a'=a')(cmp:α->α->Option Int)(n C:Int)(s:List β×Int×Int):Lh cmp n C (r2 f s)=(Lh (fun x y=>cmp (f x) (f y)) n C s).map (ga (r2 f) (r1 f)):=by
 obtain⟨d,i,j⟩:=s;simp only[Lh,oh,r1,r2,AAZ f I,KK,KQ,NI,bR,eu,et];try rfl
def AKt(j:f a'=a')(cmp:α->α->Option Int)(n:Int)(s:List β×Int):Ka cmp n (r1 f s)=(Ka (fun x y=>cmp (f x) (f y)) n s).map (ga (r1 f) (cA f)):=by
 obtain⟨d,C⟩:=s;have:=Jl (r2 f) (r1 f) (AKs f j cmp n C) (d,0,bN.wrap (2*C));simp only[r1,r2]at this;simp only[Ka,oh,r1,this,AAZ f j,KK,KQ,NI,bR,eu,et];try rfl
def AOY(j:f a'=a')(cmp:α->α->Option Int)(d:List β)(n:Int):fZ cmp (d.map f) n=(fZ (fun x y=>cmp (f x) (f y)) d n).map (cA f):=by
 have C:=Jl (r2 f) (r1 f) (AKu f j cmp n 20) (d,0,20);have h2:=fun I:List β=>Jl (r1 f) (cA f) (AKt f j cmp n) (I,20)
 simp only[r1,r2]at C h2;simp only[fZ,r1,C,h2,AHD f j,KK,KQ,RJ,bR,bI];try rfl
end
end Go.Proofs.YtegmpdmpgmpiaaaGreatDoor.stab
namespace Go.Proofs.YtegmpdmpgmpiaaaGreatDoor
open Go Go.RowKit Go.Proofs.YtegmpdmpgmpiaaaGreatDoor.stab
def tm{a b:Int}(h:0<=a):a.tmod b=a%b:=Int.tmod_eq_emod_of_nonneg h
def td{a b:Int}(h:0<=a):a.tdiv b=a/b:=Int.tdiv_eq_ediv_of_nonneg h
variable{a b:Int}
def SW(hb:0<b)(ha:-4611686018427387904<=a)(U:a<=4611686018427387904):En a b=bz (a/b):=by
 unfold En;have j:b≠0:=n'
 rw[Oa j,AB];have h2:=eg a b;have h3:=fu a j;have h4:=fi a hb
 have h8:-4611686018427387904<=a.tdiv b/\a.tdiv b<=4611686018427387904:=by
  have:(a.tdiv b).natAbs<=a.natAbs:=by rw[Int.natAbs_tdiv];exact Nat.div_le_self _ _
  omega
 rw[Z1 (n:=a.tdiv b) n']
 by_cases R:0<=a
 .have I:=td (b:=b) R;have e2:=tm (b:=b) R;have:¬ a.tmod b<0:=n'
  simp[this,I]
 .have I:a.tdiv b=-((-a)/b):=by
   have:=Int.neg_tdiv a b;rw[td n']at this;omega
  have e2:a.tmod b=-((-a)%b):=by
   have:=Int.neg_tmod a b;rw[tm n']at this;omega
  have h5:=eg (-a) b;have h6:=fu (-a) j;have h7:=fi (-a) hb
  by_cases c:(-a)%b=0
  .have:¬ a.tmod b<0:=n'
   simp only[this,decide_false,iR,if_false,Option.some.injEq]
   have hd:a/b=-((-a)/b):=by
    have C:b∣-a:=Int.dvd_of_emod_eq_zero c;obtain⟨k,J⟩:=C;have:a=b*(-k):=by rw[kI,←J];omega
    rw[J,hO _ j,this,hO _ j]
   rw[I,hd]
  .have:a.tmod b<0:=n'
   simp only[this,decide_true,if_true,Option.some.injEq];rw[Z1 n',I]
   have hd:a/b=-((-a)/b)-1:=by
    have key:a=b*(-((-a)/b)-1)+(b-(-a)%b):=by
     rw[Int.mul_sub,kI,Int.mul_one];omega
    have:=ir (b-(-a)%b) (-((-a)/b)-1) j;rw[kB,←key]at this;rw[this,hX n' n'];omega
   rw[hd]
def AKy(hb:0<b)(j:b<=1000000)(I:-1000000000<=a)(C:a<=1000000000):Oi a b=bz (a%b):=by
 unfold Oi;rw[SW hb n' n',en];have h2:=eg a b;have R:=fu a (show b≠0 by omega);have J:=fi a hb;rw[hV]at h2;rw[Z1 (n:=a/b*b) n',Z1 n']
 congr 1;omega
def TA(e:AG)(c:List AJ)(k:Nat):Int:=((c.getD k a').Time-e.Epoch)%e.Period
variable{e:AG}{c:List AJ}
def qt(I:1<=e.Period)(j:e.Period<=1000000)(U:0<=e.Epoch)(R:e.Epoch<=10000000)(J:∀i,i<c.length->0<=(c.getD i a').Time/\(c.getD i a').Time<=10000000){k:Nat}(C:k<c.length):De (k:Int) e c=bz (TA e c k):=by
 have h:=J k C;unfold De TA Dm;rw[Aa,decide_eq_true C,AB,h9,Z1 n',AKy n' j n' n'];rfl
def rN{n:Nat}(C:n<=1000):Bk (n:Int)=bz ((c7 n).map fun i:Nat=>(i:Int)):=by
 have:=Tr (step:=Be (n:Int)) (fun _=>cb) (fun i:Nat=>(i:Int)) n (r:=(c7 n).map fun i:Nat=>(i:Int)) (fun out i hi j=>by
  simp only[Be,KD,cl,hi,decide_true,if_true,en,(Z4 i)];rw[Bl t',AB]) (by
  have:(c7 n).filter (fun _=>cb)=c7 n:=List.filter_eq_self.2 (fun _ _=>rfl);simp[Be,Of,this])
 unfold Bk;rw[this];rfl
def Plc(c:List AJ)(l:List Int):Prop:=l.length=c.length/\∀x∈l,∃k:Nat,x=(k:Int)/\k<c.length
def Plc.at{c:List AJ}{l:List Int}(h:Plc c l){i:Nat}(hi:i<c.length):∃k:Nat,l.getD i a'=(k:Int)/\k<c.length:=h.2 _ (Hu (by rw[h.1];exact hi) a')
def AHH(e:AG)(c:List AJ):∀(k:Nat) (d:List Int) (a m b:Int),AH k d a m b e c=Do (fun x y=>BL x y e c) k d a m b
 |0,_,_,_,_=>rfl
 | k+1,d,a,m,b=>by
  have j:=AHH e c k;unfold AH Do;simp only[j];rfl
def AAw(d:List Int)(a m b:Int)(e:AG)(c:List AJ):BW d a m b e c=oh (fun x y=>BL x y e c) d a m b:=AHH e c 64 d a m b
def j_l3(e:AG)(c:List AJ)(n j:Int):BR n e c j=Lh (fun x y=>BL x y e c) n j:=by
 funext ⟨d,a,b⟩
 unfold BR Lh;simp only[AAw]
def j_l2(e:AG)(c:List AJ)(n:Int):BS n e c=Ka (fun x y=>BL x y e c) n:=by
 funext ⟨d,b⟩
 unfold BS Ka;simp only[j_l3,AAw]
def ALI(d:List Int)(n:Int)(e:AG)(c:List AJ):BI d n e c=fZ (fun x y=>BL x y e c) d n:=by
 unfold BI fZ;simp only[j_l2];rfl
def tZ(e:AG)(c:List AJ){m:Nat}(x y:Fin m):Bool:=b7 (TA e c x.val<TA e c y.val)
def AAg(e:AG)(c:List AJ)(m:Nat):mi (tZ e c (m:=m)):=by
 refine⟨?_,?_⟩<;>(intros;simp only[tZ,dtE,decide_eq_false_iff_not]at *;omega)
def Phs(e:AG)(c:List AJ):Prop:=∀k,k<c.length->De (k:Int) e c=bz (TA e c k)
def AFz{e:AG}{c:List AJ}(C:Phs e c){m:Nat}(hm:c.length=m):QW (fun x y:Fin m=>BL (x.val:Int) (y.val:Int) e c) (tZ e c):=fun x y=>by
 have J:=x.isLt;have I:=y.isLt;simp only[BL];rw[C _ n',en,C _ n',en];unfold tZ
 by_cases h:TA e c x.val<TA e c y.val
 .have j:(!(TA e c x.val==TA e c y.val))=cb:=t'
  exact⟨-1,by rw[if_pos j,if_pos (decide_eq_true h)],by simp[h]⟩
 .by_cases h2:TA e c x.val=TA e c y.val
  .have j:(!(TA e c x.val==TA e c y.val))=dU:=by simp[h2]
   exact⟨0,by rw[j];rfl,by simp[h]⟩
  .have j:(!(TA e c x.val==TA e c y.val))=cb:=by simpa using h2
   exact⟨1,by rw[if_pos j,if_neg (by simpa using h)],by simp[h]⟩
def qp:El=Dm:=by
 funext e t
 unfold El Dm LY Oi;have:JC=En:=id rfl;rw[this];cases En (bN.wrap (t-e.Epoch)) e.Period<;>rfl
def nd{e:AG}{c:List AJ}(I:Phs e c){k:Nat}(j:k<c.length):El e (c.getD k a').Time=bz (TA e c k):=by
 have h:=I k j;unfold De at h;rw[Aa,decide_eq_true j,AB,h9]at h;rw[qp];obtain⟨y,C,h⟩:=AO h;rw[C];exact h
def fv{m:Nat}(d:List (Fin m)):List Int:=d.map fun i=>(i.val:Int)
def ki{m:Nat}(d:List (Fin m)):(fv d).length=d.length:=by simp[fv]
def APP{m:Nat}{d:List (Fin m)}{k:Nat}(h:k<d.length):(fv d).getD k a'=(d[k].val:Int):=by simp[fv,gdE,h]
def AFj{e:AG}{c:List AJ}(J:Phs e c)(hl:c.length<=1000){m:Nat}(hm:c.length=m){d:List (Fin m)}(hd:d.length<=1000)(i:Fin m):∃k,k<=d.length/\AE (GK c e (fv d) (i.val:Int)) ((fv d).length:Int)=bz (k:Int)/\(∀x∈d.drop k,TA e c i.val<TA e c x.val)/\(∀h:0<k/\k<=d.length,TA e c (d[k-1]'(n')).val<=TA e c i.val):=by
 have hi:i.val<c.length:=by have:=i.isLt;omega
 obtain⟨y,hy,k,rfl,j⟩:=DN (step:=GK c e (fv d) (i.val:Int)) (fun s=>∃k:Nat,s=(k:Int)/\k<=d.length/\∀x∈d.drop k,TA e c i.val<TA e c x.val)
  (fun r=>∃k:Nat,r=(k:Int)/\k<=d.length/\(∀x∈d.drop k,TA e c i.val<TA e c x.val)/\(∀h:0<k/\k<=d.length,TA e c (d[k-1]'(n')).val<=TA e c i.val)) (fun s=>s.toNat) (by
  rintro s ⟨k,rfl,R,h2⟩;cases k with
  |zero=>exact .inr ⟨_,rfl,0,rfl,R,h2,fun h=>absurd h.1 n'⟩
  | succ k=>
   have cc:b7 ((0:Int)<((k+1:Nat):Int))=true:=decide_eq_true n';have j:k<d.length:=n'
   have C:d[k].val<c.length:=by have:=d[k].isLt;omega
   have U:AS (k:Int) (fv d).length=cb:=by rw[Aa,ki];exact decide_eq_true j
   simp only[GK,cc,qn (show k+1<=9223372036854775807 by omega),U,APP j,Aa,C,hi,decide_true,dc,ef,AB,e8,h9,nd J C,nd J hi,df,cB]
   by_cases hb:TA e c i.val<TA e c d[k].val
   .left;rw[if_pos (decide_eq_true hb)];refine⟨_,rfl,⟨k,rfl,n',fun x I=>?_⟩,by simp only[h9];omega⟩;rw[d' j]at I;rcases cI.1 I with rfl|I
    .exact hb
    .exact h2 x I
   .right;rw[if_neg (by simpa using hb)];exact⟨_,rfl,k+1,rfl,R,h2,fun h=>by simpa using hb⟩) (s:=((fv d).length:Int)) ⟨d.length,by rw[ki],dx _,p'⟩
 exact⟨k,j.1,hy,j.2⟩
def AEa{e:AG}{c:List AJ}{m:Nat}[Inhabited (Fin m)]{d:List (Fin m)}(hs:Ns (tZ e c) d){i:Fin m}{k:Nat}(hk:k<=d.length)(R:∀x∈d.drop k,TA e c i.val<TA e c x.val)(h2:∀h:0<k/\k<=d.length,TA e c (d[k-1]'(n')).val<=TA e c i.val):Ns (tZ e c) (d.take k++([i]++d.drop k))/\Ju (tZ e c) (d++[i]) (d.take k++([i]++d.drop k)):=by
 have C:=hs;unfold Ns at C
 have low:∀x∈d.take k,TA e c x.val<=TA e c i.val:=fun x I=>by
  obtain⟨j,hj,rfl⟩:=bS I;have ab:j<k:=by rw[ev]at hj;omega
  rw[List.getElem_take];have:=h2 ⟨n',hk⟩
  by_cases ej:j=k-1
  .subst ej;exact this
  .have U:=f'.1 C j (k-1) n' n' n';simp only[tZ,decide_eq_false_iff_not]at U;omega
 constructor
 .refine Sv (Pq hs k) (Sv (qS p') (Pr hs k) fun x I y J=>?_) fun x I y J=>?_
  .obtain rfl:x=i:=by simpa using I
   have:=R y J;simp only[tZ,decide_eq_false_iff_not];omega
  .have U:=low x I;simp only[tZ,decide_eq_false_iff_not];rcases eL.1 J with q|q
   .obtain rfl:y=i:=by simpa using q
    omega
   .have:=R y q;omega
 .have e1:d++[i]=d.take k++(d.drop k++[i]):=by rw[←b',bs]
  rw[e1]
  exact Ju.app (Ju.refl _) (Ju.swap (AAg e c m) fun x I y J=>by
   obtain rfl:y=i:=by simpa using J
   exact decide_eq_true (R x I))
def ug{e:AG}{c:List AJ}(hg:Phs e c)(hl:c.length<=1000):∃o,Hr e c=bz o/\Ig e c=bz o/\Plc c o:=by
 unfold Hr Cu BG;rw[rN n',en,ALI];rcases g' c.length with U|U
 .refine⟨[],?_,?_,by simp[U],(fun k hk=>by cases hk)⟩
  .rw[U]
   have e1:∀cmp:Int->Int->Option Int,fZ cmp ([]:List Int) 0=bz []:=fun cmp=>by
    unfold fZ om;rw[Ai (r:=([],0)) (by simp[Mb]),en];simp only
    rw[Ai (r:=[]) (by
     have:bN.wrap (0+1)=1:=Z1 n';rw[this];simp[NP])]
    simp only[en,beq_self_eq_true,AB];rw[Ai (r:=[]) (by simp[Ka])];simp only[en,beq_self_eq_true,AB]
   have e2:=e1 (fun x y=>BL x y e c);simp only[j5,kn,hC];show(((fZ (fun x y=>BL x y e c) [] 0).bind _).bind _).bind _=_;rw[e2];rfl
  .unfold Ig;rw[Ai (r:=[]) (by simp[GL,U])];rfl
 .obtain⟨m,hm⟩:∃m,c.length=m+1:=⟨c.length-1,n'⟩
  have I:((c7 c.length).map fun i:Nat=>(i:Int))=(cS (m+1)).map fun i=>(i.val:Int):=by
   rw[hm];apply List.ext_getElem
   .simp
   .intro i h1 h2;simp
  have J:(cS (m+1)).length=c.length:=by simp[hm]
  obtain⟨d,s1,s2,s3⟩:=AEH (AFz hg hm) (AAg e c (m+1)) (d:=cS (m+1)) (by rw[J];omega);have hn:=AOY (fun i:Fin (m+1)=>(i.val:Int)) rfl (fun x y=>BL x y e c) (cS (m+1)) ((cS (m+1)).length:Int);rw[s1]at hn;have R:d.length=c.length:=by rw[s3.len,J]
  rw[I,bI,hn];refine⟨fv d,?_,?_,by rw[ki];exact R,?_⟩
  .simp only[bR,en,bI];have:(d.length==(cS (m+1)).length)=cb:=by simp[R,hm]
   rw[this,AB];rfl
  .obtain⟨y,hy,d2,rfl,t2,t3⟩:=DN (step:=GL c e) (fun s=>∃(k:Nat) (d:List (Fin (m+1))),s=(fv d,(k:Int))/\k<=m+1/\Ns (tZ e c) d/\Ju (tZ e c) ((cS (m+1)).take k) d) (fun r=>∃d:List (Fin (m+1)),r=fv d/\Ns (tZ e c) d/\Ju (tZ e c) (cS (m+1)) d) (fun s=>m+1-s.2.toNat) (by
    rintro _ ⟨k,q,rfl,h1,h2,h3⟩;have a8:q.length=k:=by rw[h3.len,ev];simp;omega
    by_cases C:k<m+1
    .left;obtain⟨j,j1,j2,j3,j4⟩:=AFj hg hl hm (d:=q) n' ⟨k,C⟩;obtain⟨p1,p2⟩:=AEa h2 j1 j3 j4;have c':(k:Int)<(c.length:Int):=n'
     have ao:=ki q;simp only[GL,c',decide_true,if_true];rw[show AE (GK c e (fv q) (k:Int)) ((fv q).length:Int)=bz (j:Int)from j2,en,Z3 n',AB,ALZ,Z3 n',ALa];unfold Lw;rw[Bl t',AB,en,AB,Bl t',AB,Bl t',AB,AW n'];refine⟨_,rfl,⟨k+1,q.take j++([⟨k,C⟩]++q.drop j),?_,n',p1,?_⟩,by simp only[h9];omega⟩
     .simp[fv]
     .have hT:(cS (m+1)).take (k+1)=(cS (m+1)).take k++[⟨k,C⟩]:=by
       rw[e7 (by simpa using C)];simp
      rw[hT];exact(Ju.app h3 (Ju.refl _)).trans p2
    .right;have c':¬ (k:Int)<(c.length:Int):=n'
     simp only[GL,c',decide_false,iR,if_false];refine⟨_,rfl,q,rfl,h2,?_⟩
     rwa [gk t']at h3) (s:=(([]:List Int),0)) ⟨0,[],rfl,gb _,ew,Ju.refl _⟩
   have hu:=Zj (AAg e c (m+1)) t2 s2 ⟨s3.perm.trans t3.perm.symm,fun z=>(s3.same z).trans (t3.same z).symm⟩;unfold Ig;rw[hy,hu];rfl
  .intro x hx;obtain⟨i,_,rfl⟩:=kf.1 hx;have:=i.isLt;exact⟨i.val,rfl,n'⟩
def aH(p:AJ):Bool:=(b7 (0<=p.Time)&&b7 (p.Time<=10000000))&&(b7 (-2000<=p.Mag)&&b7 (p.Mag<=20000))
def okP(c:List AJ)(i:Nat):Bool:=aH (c.getD i a') && !(b7 (0<i)&&b7 ((c.getD i a').Time<=(c.getD (i-1) a').Time))
def QK(c:List AJ):Bool:=(c7 c.length).all (okP c)
variable{i:Nat}
def Xz(hl:c.length<=1099511627776)(hi:i<c.length):Cq c c (c.length:Int) (i:Int)=bz (if okP c i=cb then .inl ((i+1:Nat):Int)else .inr (.inr dU)):=by
  simp only[Cq,EV,Ba,FV,Aa,hi,decide_true,AB,cl,if_true,h9,(Z4 i),en,df,cB,fx];unfold okP aH
  by_cases j:0<i
  · have R:b7 ((0:Int)<(i:Int))=cb:=by simpa using j
    have J:b7 (0<i)=cb:=by simpa using j
    have U:bN.wrap ((i:Int)-1)=((i-1:Nat):Int):=by rw[Z1 n'];omega
    have I:AS ((i-1:Nat):Int) c.length=cb:=by rw[Aa];simp;omega
    simp only[R,J,U,I,fx,AB,e8,h9];generalize(b7 (0<=(c.getD i a').Time)&&b7 ((c.getD i a').Time<=10000000))=A;generalize(b7 (-2000<=(c.getD i a').Mag)&&b7 ((c.getD i a').Mag<=20000))=B;generalize b7 ((c.getD i a').Time<=(c.getD (i-1) a').Time)=C;cases A<;>cases B<;>cases C<;>rfl
  · have R:b7 ((0:Int)<(i:Int))=dU:=by simpa using j
    have J:b7 (0<i)=dU:=by simpa using j
    simp only[R,J,j',k7,hH,kp,AB,kc,ke];generalize(b7 (0<=(c.getD i a').Time)&&b7 ((c.getD i a').Time<=10000000))=A;generalize(b7 (-2000<=(c.getD i a').Mag)&&b7 ((c.getD i a').Mag<=20000))=B;cases A<;>cases B<;>rfl
def Pl(j:c.length<=1099511627776):Ec c=bz (QK c&&b7 (c.length<=100)):=by
  unfold Ec
  by_cases h:100<(c.length:Int)
  · have e:b7 (c.length<=100)=dU:=t'
    simp[h,e]
  · have e:b7 (c.length<=100)=cb:=t'
    simp only[h,decide_false,iR,if_false];rw[Gw (step:=Cq c c (c.length:Int)) (okP c) c.length (QK c) (yes:=.inl ()) (no:=.inr dU) (by unfold QK;simp) (fun i hi=>Xz j hi) (by simp[Cq])];simp only[en,YL,e];cases QK c<;>rfl
def TG(h:QK c=cb)(hi:i<c.length):0<=(c.getD i a').Time/\(c.getD i a').Time<=10000000/\-2000<=(c.getD i a').Mag/\(c.getD i a').Mag<=20000:=by
  unfold QK at h;have:=RQ h hi;unfold okP aH at this;simp only[baT,dtE]at this;omega
theorem AAt:ND=fun c=>Cq c c (c.length:Int):=id rfl
def aV(j:c.length<=1099511627776):Jn c=bz (QK c&&b7 (c.length<=100)):=by
  unfold Jn;rw[AAt,Gw (step:=Cq c c (c.length:Int)) (okP c) c.length (QK c) (yes:=.inl ()) (no:=.inr dU) (by unfold QK;simp) (fun i hi=>Xz j hi) (by simp[Cq])];have e:b7 ((c.length:Int)<=100)=b7 (c.length<=100):=by rw[cm];simp;omega
  simp only[en,YL];cases QK c<;>simp[e]
def Ve(s:L8)(e:AA):Bool:=(e.Star==s) && !e.Fainter
def Xs(t:Int)(e:AA):Bool:=e.Time==t
variable{l:List AA}
def rn(C:l.length<=1000)(s:L8):BK l s=bz (l.filter (Ve s)):=by
  have:=MK (step:=BD s l (l.length:Int)) (fun i=>(l.take i).filter (Ve s)) l.length (r:=l.filter (Ve s)) (fun i hi=>by
    have hlen:((l.take i).filter (Ve s)).length<=i:=hS (gr _ _) (by rw[ev];omega)
    have j:(l.take (i+1)).filter (Ve s)=if Ve s (l.getD i a')=cb then(l.take i).filter (Ve s)++[l.getD i a']else(l.take i).filter (Ve s):=by
      rw[e7 hi,e9,Cl hi];split<;>rename_i h<;>simp[h]
    simp only[BD,KF,cl,hi,decide_true,if_true,Aa,AB,h9,en,(Z4 i)];rw[Bl t',AB,j];show(if Ve s (l.getD i a')=cb then _ else _)=_;split<;>rfl) (by simp[BD])
  unfold BK;rw[jm,j8]at this;rw[this];rfl
def AEp(l:List Int):Prop:=∀x∈l,-2000<=x/\x<=20000
def tH:∀{l:List Int},AEp l->-2000*(l.length:Int)<=l.sum/\l.sum<=20000*(l.length:Int)
  |[],_=>by simp
  | x::r,h=>by
    have C:=h x p';have h2:=tH (l:=r) fun y j=>h y (fp _ j)
    rw[k8,fm];omega
def AKO{l:List Int}(J:l.length<=1000)(hb:AEp l):Hp l=bz l.sum:=by
  have:=MK (step:=Io l (l.length:Int)) (fun i=>(l.take i).sum) l.length (r:=l.sum) (fun i hi=>by
    have I:=tH (l:=l.take (i+1)) fun y C=>hb y (List.mem_of_mem_take C)
    rw[ev,Nat.min_eq_left n']at I;have j:(l.take (i+1)).sum=(l.take i).sum+l.getD i a':=by rw[e7 hi,List.sum_append,Cl hi];simp
    simp only[Io,cl,hi,decide_true,if_true,Aa,AB,h9,(Z4 i)];rw[←j,Z1 n']) (by simp[Io])
  unfold Hp;rw[jm,List.sum_nil]at this;rw[this];rfl
def AEn{l:List Int}(h0:0<l.length)(U:l.length<=1000)(hb:AEp l):OJ l=bz ((2*l.sum+l.length)/(2*l.length)):=by
  have hs:=tH hb;unfold OJ JV MX;rw[AKO U hb,en,en,SW n' n' n',en];obtain⟨n,R⟩:∃n:Int,n=(l.length:Int):=⟨_,rfl⟩;rw[←R]at hs ⊢;have j:0<n:=n'
  have J:n<=1000:=n'
  generalize l.sum=s at hs;have e1:=eg s n;have e2:=fu s (show n≠0 by omega);have e3:=fi s j;have C:s/n*n=s-s%n:=by rw[hV];omega
  rw[Z1 (n:=s/n*n) n',C,Z1 (n:=s-(s-s%n)) n',Z1 (n:=n-(s-(s-s%n))) n']
  have I:-2000<=s/n/\s/n<=20000:=⟨by rw[hW j];omega,by
    have:s/n<20001:=hZ j n';omega⟩
  have k1:∀q r:Int,2*s+n=2*n*q+r->0<=r->r<2*n->(2*s+n)/(2*n)=q:=fun q r h a b=>by
    rw[h,kB,ir _ _ n',hX a b];omega
  have k2:2*n*(s/n)=2*(s-s%n):=by rw[←C,Int.mul_assoc,hV n]
  by_cases c:n-(s-(s-s%n))<=s-(s-s%n)
  · rw[if_pos (decide_eq_true c),Z1 n',k1 (s/n+1) (2*(s%n)-n) (by rw[iB,k2];omega) n' n'];rfl
  · rw[if_neg (by simpa using c),k1 (s/n) (2*(s%n)+n) (by rw[k2];omega) n' n'];rfl
def zh{s n:Int}(I:0<n)(C:n<=1000)(h2:-100000000<=s)(j:s<=100000000):KJ s n=bz ((2*s+n)/(2*n)):=by
  unfold KJ;have:JC=En:=id rfl;rw[this,Z1 (n:=2*s) n',Z1 (n:=2*s+n) n',Z1 (n:=2*n) n',SW n' n' n'];rfl
def ua{j:List AA}(R:j.length<=1000)(out:List AJ)(t:Int):∀(r:List AA) (i:Nat) (acc:List Int),j.drop i=r->i<=j.length->acc.length<=i->AE (GR j out t) ((i:Int),acc)=bz (((i+(r.takeWhile (Xs t)).length:Nat):Int),acc++(r.takeWhile (Xs t)).map AA.Mag)
  | [],i,acc,C,hi,U=>by
    have c:¬ i<j.length:=by have:=congrArg fa C;simp at this;omega
    rw[Ai (r:=((i:Int),acc)) (by simp[GR,c,AB])];simp
  | e::r,i,acc,C,hi,U=>by
    have c:i<j.length:=by have:=congrArg fa C;simp at this;omega
    rw[d' c]at C;injection C with h1 h2
    have J:j.getD i a'=e:=by rw[Cl c,h1]
    by_cases I:(e.Time==t)=cb
    · rw[Aq (s':=(((i+1:Nat):Int),acc++[e.Mag])) (by
        simp only[GR,cl,c,decide_true,dc,ef,Aa,AB,e8,h9,J,I,if_true,(Z4 i)];rw[Bl t',AB]),ua R out t r (i+1) _ h2 c t',eo (show Xs t e=cb from I)]
      simp only[fm,k9,b',j0,ea];rw[show i+1+(r.takeWhile (Xs t)).length=i+((r.takeWhile (Xs t)).length+1) by omega]
    · rw[Ai (r:=((i:Int),acc)) (by
        simp only[GR,cl,c,decide_true,dc,ef,Aa,AB,e8,h9,J,I,iR,if_false]),fy (show ¬ Xs t e=cb from I)]
      simp
def kT{l:List AA}(hl:l.length<=1000)(hb:∀e∈l,-2000<=e.Mag/\e.Mag<=20000)(s:L8)(out:List AJ){i0:Nat}(j:i0<l.length):∀(r:List AA) (k:Nat) (sm:Int) (n:Nat),l.drop k=r->k<=l.length->n<=k->-2000*(k:Int)<=sm->sm<=20000*(k:Int) ->
    AE (Gl l s out (i0:Int)) (sm,(n:Int),(k:Int))=bz (sm+(((r.takeWhile (Xs (l.getD i0 a').Time)).filter (Ve s)).map AA.Mag).sum,((n+((r.takeWhile (Xs (l.getD i0 a').Time)).filter (Ve s)).length:Nat):Int),((k+(r.takeWhile (Xs (l.getD i0 a').Time)).length:Nat):Int))
  | [],k,sm,n,J,hk,hn,h3,h4=>by
    have c:¬ k<l.length:=by have:=congrArg fa J;simp at this;omega
    rw[Ai (r:=(sm,(n:Int),(k:Int))) (by simp[Gl,c,AB])];simp
  | e::r,k,sm,n,J,hk,hn,h3,h4=>by
    have c:k<l.length:=by have:=congrArg fa J;simp at this;omega
    rw[d' c]at J;injection J with h1 h2
    have U:l.getD k a'=e:=by rw[Cl c,h1]
    have hm:=hb e (by rw[←U];exact Hu c a')
    by_cases I:(e.Time==(l.getD i0 a').Time)=cb
    · rw[eo (show Xs (l.getD i0 a').Time e=cb from I)]
      by_cases R:Ve s e=cb
      · rw[Aq (s':=(sm+e.Mag,((n+1:Nat):Int),((k+1:Nat):Int))) (by
          have C:((e.Star==s) && !e.Fainter)=true:=R;simp only[Gl,cl,c,j,decide_true,dc,ef,Aa,AB,e8,h9,U,I,C,if_true,(Z4 k),(Z4 n)];rw[Z1 n']),kT hl hb s out j r (k+1) _ (n+1) h2 c n' n' n',List.filter_cons_of_pos R]
        simp only[fm,k9,k8];rw[show k+1+(r.takeWhile (Xs (l.getD i0 a').Time)).length=k+((r.takeWhile (Xs (l.getD i0 a').Time)).length+1) by omega,show ∀q:Nat,n+1+q=n+(q+1)from fun q=>n',Int.add_assoc]
      · rw[Aq (s':=(sm,(n:Int),((k+1:Nat):Int))) (by
          have C:((e.Star==s) && !e.Fainter)=dU:=by simpa[Ve]using R
          simp only[Gl,cl,c,j,decide_true,dc,ef,Aa,AB,e8,h9,U,I,C,if_true,iR,if_false,(Z4 k)]),kT hl hb s out j r (k+1) _ n h2 c n' n' n',List.filter_cons_of_neg R]
        simp only[fm];rw[show k+1+(r.takeWhile (Xs (l.getD i0 a').Time)).length=k+((r.takeWhile (Xs (l.getD i0 a').Time)).length+1) by omega]
    · rw[Ai (r:=(sm,(n:Int),(k:Int))) (by
        simp only[Gl,cl,c,j,decide_true,dc,ef,Aa,AB,e8,h9,U,I,iR,if_false]),fy (show ¬ Xs (l.getD i0 a').Time e=cb from I)]
      simp
def th{t:Int}:∀{r:List AA},r.Pairwise (fun a b=>a.Time<=b.Time)->(∀x∈r,t<=x.Time)->∀x∈r.dropWhile (Xs t),x.Time≠t
  |[],_,_,x,j=>by simp at j
  | e::r,C,I,x,j=>by
    rw[cn]at C
    by_cases h:Xs t e=cb
    · rw[List.dropWhile_cons_of_pos h]at j;exact th C.2 (fun y J=>I y (fp _ J)) x j
    · rw[List.dropWhile_cons_of_neg h]at j;have R:=I e p';have h2:e.Time≠t:=by simpa[Xs]using h
      rcases cI.1 j with rfl|j
      · exact h2
      · have:=C.1 x j;omega
def zD{p:AA->Bool}:∀{a b:List AA},(∀x∈a,p x=cb)->(∀x∈b,p x=dU)->(a++b).takeWhile p=a
  |[],[],_,_=>rfl
  |[],y::b,_,h=>by rw[ea,fy (by rw[h y p'];exact Bool.false_ne_true)]
  |x::a,b,h,h2=>by rw[j0,eo (h x p'),zD (fun y j=>h y (fp _ j)) h2]
def TH(j:FP l=cb){e:AA}(C:e∈l):Nj e=cb:=by
  obtain⟨i,hi,rfl⟩:=bS C;unfold FP at j;have:=RQ j hi;unfold dz at this;rw[Cl hi]at this;exact(ix.1 this).1
def aI{e:AA}(h:Nj e=cb):0<=e.Time/\e.Time<=10000000/\-2000<=e.Mag/\e.Mag<=20000:=by
  unfold Nj at h;simp only[baT,dtE]at h;omega
def rk(hg:FP l=cb)(hl:l.length<=1000)(s:L8):∀(n i i':Nat) (out:List AJ),l.length-i<=n->i<=l.length->i'<=(l.filter (Ve s)).length->(l.filter (Ve s)).drop i'=(l.drop i).filter (Ve s)->out.length<=i->(∀p∈out,aH p=cb) ->
    ∃c,AE (Iy l s) (out,(i:Int))=bz c/\AE (IY (l.filter (Ve s))) (out,(i':Int))=bz c/\c.length<=l.length/\∀p∈c,aH p=cb:=by
  have hb:∀e∈l,-2000<=e.Mag/\e.Mag<=20000:=fun e he=>by have:=aI (TH hg he);omega
  have b5:l.Pairwise (fun a b=>a.Time<=b.Time):=f'.2 fun i j hi hj b8=>by
    have:=OK hg b8 hj;rw[Cl hi,Cl hj]at this;rcases this with h|h<;>omega
  have b3:(l.filter (Ve s)).length<=1000:=hS (gr _ _) hl;intro n
  induction n with
  | zero=>
    intro i i' out hn hi ad hd ho hp;obtain rfl:i=l.length:=n'
    rw[List.drop_length,j8]at hd;have b9:(l.filter (Ve s)).length=i':=by have:=congrArg fa hd;simp at this;omega
    exact⟨out,Ai (by simp[Iy]),Ai (by simp[IY,b9]),ho,hp⟩
  | succ n ih=>
    intro i i' out hn hi ad hd ho hp
    by_cases ci:i<l.length
    · obtain⟨t,ht⟩:∃t,(l.getD i a').Time=t:=⟨_,rfl⟩;have I:=kT hl hb s out ci (l.drop i) i 0 0 rfl hi (gb _) n' n';rw[ht]at I;have aa:l.drop i=l.getD i a'::l.drop (i+1):=by rw[d' ci,Cl ci]
      have au:(l.drop i).Pairwise (fun a b=>a.Time<=b.Time):=fI (iN i l) b5
      have b1:∀x∈l.drop i,t<=x.Time:=fun x C=>by
        rw[aa]at au C;rcases cI.1 C with rfl|C
        · omega
        · have:=(cn.1 au).1 x C;omega
      have aj:=th au b1;obtain⟨g,ae⟩:∃g,g=(l.drop i).takeWhile (Xs t):=⟨_,rfl⟩;obtain⟨rest,a1⟩:∃r,r=(l.drop i).dropWhile (Xs t):=⟨_,rfl⟩;have J:g++rest=l.drop i:=by rw[ae,a1];exact List.takeWhile_append_dropWhile
      rw[←ae]at I;rw[←a1]at aj
      have ds:0<g.length:=by
        rw[ae,aa,eo (show Xs t (l.getD i a')=cb by unfold Xs;rw[ht];simp)];simp
      have c6:g.length+rest.length=l.length-i:=by have:=congrArg fa J;simpa using this
      have be:∀x∈g,Xs t x=true:=fun x C=>by rw[ae]at C;exact List.all_eq_true.1 (List.all_takeWhile (p:=Xs t) (l:=l.drop i)) x C
      have ca:∀x∈g,x∈l:=fun x C=>List.mem_of_mem_drop (by rw[←J];exact eL.2 (.inl C))
      have R:l.drop (i+g.length)=rest:=by rw[←fB,←J];simp
      have ax:(l.drop i).filter (Ve s)=g.filter (Ve s)++rest.filter (Ve s):=by rw[←J,e9]
      have c':(i:Int)<(l.length:Int):=n'
      obtain⟨F,hF⟩:∃F,F=g.filter (Ve s):=⟨_,rfl⟩;rw[←hF]at I ax;have dw:F.length<=g.length:=by rw[hF];exact gr _ _
      have ay:∀x∈F,x∈g:=fun x C=>by rw[hF]at C;exact(hB.1 C).1
      have ba:AEp (F.map AA.Mag):=fun x C=>by
        obtain⟨e,he,rfl⟩:=kf.1 C;exact hb e (ca e (ay e he))
      have b4:=tH ba;rw[bI]at b4;simp only[Int.zero_add,hR]at I;rw[show((0:Nat):Int)=0 from rfl]at I;rcases g' F.length with ab|ab
      · have cf:F=[]:=bX.1 ab;obtain⟨c,e1,e2,e3⟩:=ih (i+g.length) i' out n' n' ad (by rw[hd,ax,cf,R];rfl) n' hp;refine⟨c,?_,e2,e3⟩
        rw[Aq (s':=(out,((i+g.length:Nat):Int))) (by
          simp only[Iy,c',decide_true,if_true,I,en,ab];simp)]
        exact e1
      · obtain⟨f,fs,bh⟩:∃f fs,F=f::fs:=by
          cases F with
          |nil=>simp at ab
          |cons f fs=>exact⟨f,fs,rfl⟩
        have U:(l.filter (Ve s)).drop i'=F++rest.filter (Ve s):=by rw[hd,ax]
        have az:i'<(l.filter (Ve s)).length:=by have:=congrArg fa U;simp at this;omega
        have cd:(l.filter (Ve s)).getD i' a'=f:=by
          have:=U;rw[d' az,bh]at this;injection this with h1
          rw[Cl az,h1]
        have cc:f.Time=t:=by
          have:=be f (ay f (by rw[bh];simp));simpa[Xs]using this
        have b0:((l.filter (Ve s)).drop i').takeWhile (Xs t)=F:=by
          rw[U];refine zD (fun x C=>be x (ay x C)) fun x C=>?_
          have:=aj x (hB.1 C).1;simpa[Xs]using this
        have ao:=ua b3 out t _ i' [] rfl ad (gb _);rw[b0]at ao;obtain⟨v,hv⟩:∃v,v=(2*(F.map AA.Mag).sum+F.length)/(2*F.length):=⟨_,rfl⟩;have bb:=AEn (l:=F.map AA.Mag) (by simpa using ab) (by rw[bI];omega) ba;rw[bI,←hv]at bb;have a6:=zh (s:=(F.map AA.Mag).sum) (n:=(F.length:Int)) n' n' n' n';rw[←hv]at a6
        have c8:-2000<=v/\v<=20000:=by
          have a7:(0:Int)<2*(F.length:Int):=n'
          refine⟨by rw[hv,hW a7];omega,?_⟩;have:v<20001:=by rw[hv];exact hZ a7 n'
          omega
        have db:=aI (TH hg (Hu ci a'))
        obtain⟨c,e1,e2,e3⟩:=ih (i+g.length) (i'+F.length) (out++[⟨t,v⟩]) n' n' (by have:=congrArg fa U;simp at this;omega) (by rw[←fB,U,R];simp) t' (fun p b6=>by
          rcases eL.1 b6 with q|q
          · exact hp p q
          · obtain rfl:p=⟨t,v⟩:=by simpa using q
            unfold aH;simp only[baT,dtE];omega)
        refine⟨c,?_,?_,e3⟩
        · rw[Aq (s':=(out++[⟨t,v⟩],((i+g.length:Nat):Int))) (by
            have hq:b7 ((0:Int)<(F.length:Int))=true:=decide_eq_true n';simp only[Iy,c',decide_true,if_true,I,en,hq,a6,Aa,ci,AB,h9,ht];rw[Bl t',AB])]
          exact e1
        · rw[Aq (s':=(out++[⟨t,v⟩],((i'+F.length:Nat):Int))) (by
            have c2:(i':Int)<((l.filter (Ve s)).length:Int):=n'
            simp only[IY,c2,decide_true,if_true,Aa,az,AB,h9,cd,cc,ao,en,ea,bb];rw[Bl t',AB])]
          exact e2
    · obtain rfl:i=l.length:=n'
      exact ih l.length i' out n' n' ad hd ho hp
theorem OF{l:List AA}(I:l.length<=1000)(s:L8):∃c z,Jp l s=bz (c,z)/\Gd l s=bz (c,z)/\c.length<=100/\∀p∈c,aH p=cb:=by
  unfold Jp Gd;rw[GH n',en,JY,en,SH n',en,JP,en];split
  · exact⟨_,_,rfl,rfl,p',p'⟩
  · rename_i C;have C:(FP l&&b7 (l.length<=100))=cb:=by simpa using C
    obtain⟨U,j⟩:=ix.1 C;have j:=of_decide_eq_true j;split
    · exact⟨_,_,rfl,rfl,p',p'⟩
    · rw[rn I,en];obtain⟨c,R,J,e3,e4⟩:=rk U I s l.length 0 0 [] n' n' n' rfl p' p';unfold OQ;have h0:((0:Nat):Int)=0:=rfl;rw[h0]at R J;rw[R,J];exact⟨c,0,rfl,rfl,n',e4⟩
def AEo(C:c.length<=1000):ME c=bz (c.map AJ.Mag):=by
  have:=MK (step:=JT c (c.length:Int)) (fun i=>(c.take i).map AJ.Mag) c.length (r:=c.map AJ.Mag) (fun i hi=>by
    simp only[JT,cl,hi,decide_true,if_true,Aa,AB,h9,(Z4 i)];rw[Bl t',AB,e7 hi,Cl hi,j6];rfl) (by simp[JT])
  unfold ME;have j:((c.take 0).map AJ.Mag)=[]:=p'
  rw[j]at this;rw[this];simp
def fJ{c:List AJ}(hl:c.length<=1000):∃v z,FZ c=bz (v,z)/\DB c=bz (v,z)/\QY v:=by
  unfold FZ DB;rw[Pl n',en,aV n',en];split
  · exact⟨_,_,rfl,rfl,by unfold QY;decide⟩
  · split
    · exact⟨_,_,rfl,rfl,by unfold QY;decide⟩
    · rename_i R;have R:c.length≠0:=by intro e;apply R;simp[e]
      obtain⟨m,hm⟩:∃m,m=c.map AJ.Mag:=⟨_,rfl⟩;have aa:m.length=c.length:=by rw[hm];simp
      have C:nk m=cb:=by unfold nk;simp;omega
      have I:∀i,i<c.length->(c.getD i a').Mag=m.getD i 0:=fun i hi=>by
        rw[hm,Cl hi,gdE,iI,geE hi];rfl
      rw[AEo hl,en,←hm];unfold ud jE;rw[if_pos C,en,if_pos C,en]
      obtain⟨y,U,rfl⟩:=DN (step:=FC c) (fun s=>∃k:Nat,s=(dT (m.take k),hf (m.take k),(k:Int))/\0<k/\k<=c.length) (fun r=>r=(dT m,hf m)) (fun s=>c.length-s.2.2.toNat) (by
        rintro _ ⟨k,rfl,k0,k1⟩
        by_cases j:k<c.length
        · left;have J:(k:Int)<(c.length:Int):=n'
          simp only[FC,J,decide_true,if_true,Aa,j,AB,h9,I k j,(Z4 k)]
          have e1:Lx (dT (m.take k)) (m.getD k 0)=bz (dT (m.take (k+1))):=by
            rw[Lib.minOf_step m k k0 n'];generalize m.getD k 0=a;generalize dT (m.take k)=b;unfold Lx;split<;>rename_i h<;>simp at h<;>congr 1<;>omega
          have e2:Ly (hf (m.take k)) (m.getD k 0)=bz (hf (m.take (k+1))):=by
            rw[Lib.maxOf_step m k k0 n'];generalize m.getD k 0=a;generalize hf (m.take k)=b;unfold Ly;split<;>rename_i h<;>simp at h<;>congr 1<;>omega
          rw[e1,en,e2,en];exact⟨_,rfl,⟨k+1,rfl,n',j⟩,by simp only[h9];omega⟩
        · right;have J:¬ (k:Int)<(c.length:Int):=n'
          simp only[FC,J,decide_false,iR,if_false];refine⟨_,rfl,?_⟩;rw[gk n']) (s:=((c.getD 0 a').Mag,(c.getD 0 a').Mag,1)) ⟨1,by rw[I 0 n',Lib.minOf_one,Lib.maxOf_one];rfl,n',n'⟩
      rw[Z2 n',AB,U,en];exact⟨_,_,rfl,rfl,si _⟩
def oY(C:1<=e.Period)(j:e.Period<=1000000)(J:0<=e.Epoch)(I:e.Epoch<=10000000)(R:QK c=cb):Phs e c:=fun k U=>qt C j J I (fun i hi=>⟨(TG R hi).1,(TG R hi).2.1⟩) U
def dj{e:AG}{c:List AJ}(I:c.length<=100):∃o z,Hs e c=bz (o,z)/\Et e c=bz (o,z)/\o.length<=100/\∀x∈o,0<=x/\x<=100:=by
  unfold Hs Ga EV Et OO Gc Di;simp only[FV,Dr,en,df,cB,fx,AB,Pl (show c.length<=1099511627776 by omega),aV (show c.length<=1099511627776 by omega)];split
  · exact⟨_,_,rfl,rfl,p',p'⟩
  · rename_i h;simp only[j9,ek,not_or,iS,baT,dtE]at h;obtain⟨o,J,h2,j⟩:=ug (e:=e) (c:=c) (oY n' n' n' n' h.2.1) n';rw[J,h2];refine⟨_,_,rfl,rfl,by rw[j.1];exact I,fun x C=>?_⟩;obtain⟨k,rfl,R⟩:=j.2 x C;omega
def ADf(j:-100000<=a/\a<=100000)(h2:-100000<=b/\b<=100000):EU (a-b)=Fi (b-a):=by
  unfold EU Fi
  by_cases c1:a-b<0
  · rw[if_pos (decide_eq_true c1),if_neg t',Z1 n'];congr 1;omega
  · rw[if_neg (by simpa using c1)]
    by_cases c2:b-a<0
    · rw[if_pos (decide_eq_true c2),Z1 n'];congr 1;omega
    · rw[if_neg (by simpa using c2)];congr 1;omega
def oD{p:Int}(aa:1<=p)(U:p<=1000000)(hg:QK c=cb)(h0:0<c.length)(hl:c.length<=100):∃v,Dd c p=bz v/\Fr c p=bz v:=by
  obtain⟨q,h1,h2,hq⟩:=ug (e:=⟨0,p⟩) (c:=c) (oY aa U p' p' hg) n';unfold Dd Fr;rw[h1,en,h2,en];have hlen:=hq.1;have J:∀i,i<c.length->∃k:Nat,q.getD i a'=(k:Int)/\k<c.length:=fun i hi=>hq.at hi
  have key:∀(n:Int) (i:Nat),i<c.length->∃v,CC c q (q.length:Int) (n,(i:Int))=bz (.inl (v,((i+1:Nat):Int)))/\Er c q (n,(i:Int))=bz (.inl (v,((i+1:Nat):Int))):=fun n i j=>by
    obtain⟨k,C,k1⟩:=J i j;have hm:(((i+1:Nat):Int)).tmod (c.length:Int)=(((i+1)%c.length:Nat):Int):=by rw[tm n'];omega
    have I:(i+1)%c.length<c.length:=Nat.mod_lt _ h0;obtain⟨k2,R,k3⟩:=J _ I;have g1:=TG hg k1;have g2:=TG hg k3;simp only[CC,Er,hlen,cl,j,decide_true,if_true,Aa,AB,(Z4 i),hm,I,Oa (show(c.length:Int)≠0 by omega),h9,C,R,k1,k3];rw[Z1 (n:=(c.getD k a').Mag-(c.getD k2 a').Mag) n',Z1 (n:=(c.getD k2 a').Mag-(c.getD k a').Mag) n']
    have ha:EU ((c.getD k a').Mag-(c.getD k2 a').Mag)=Fi ((c.getD k2 a').Mag-(c.getD k a').Mag) :=
       ADf n' n'
    rw[ha]
    obtain⟨a,ad⟩:∃a,Fi ((c.getD k2 a').Mag-(c.getD k a').Mag)=bz a:=by
      unfold Fi;split<;>exact⟨_,rfl⟩
    rw[ad];exact⟨_,rfl,rfl⟩
  have hw:=Rn (step:=CC c q (q.length:Int)) (step':=Er c q) (fun s=>∃i:Nat,s.2=(i:Int)/\i<=c.length) (by
    rintro⟨n,z⟩ ⟨i,hi,hle⟩;have hi:z=(i:Int):=hi;subst hi
    by_cases j:i<c.length
    · obtain⟨v,C,R⟩:=key n i j;rw[C,R]
    · have c2:¬ (i:Int)<(c.length:Int):=n'
      simp[CC,Er,hlen,c2]) (by
    rintro⟨n,z⟩ s' ⟨i,hi,hle⟩ e;have hi:z=(i:Int):=hi;subst hi
    by_cases j:i<c.length
    · obtain⟨v,C,R⟩:=key n i j;rw[C]at e;cases e
      exact⟨i+1,rfl,j⟩
    · have c2:¬ (i:Int)<(c.length:Int):=n'
      simp[CC,hlen,c2]at e) (s:=(0,0)) ⟨0,rfl,gb _⟩
  obtain⟨y,hy,_⟩:=DN (step:=CC c q (q.length:Int)) (fun s=>∃i:Nat,s.2=(i:Int)/\i<=c.length) (fun _=>True) (fun s=>c.length-s.2.toNat) (by
    rintro⟨n,z⟩ ⟨i,hi,hle⟩;have hi:z=(i:Int):=hi;subst hi
    by_cases j:i<c.length
    · left;obtain⟨v,C,R⟩:=key n i j;exact⟨_,C,⟨i+1,rfl,j⟩,by simp only[h9];omega⟩
    · right;have c2:¬ (i:Int)<(c.length:Int):=n'
      simp only[CC,hlen,c2,decide_false,iR,if_false];exact⟨_,rfl,trivial⟩) (s:=(0,0)) ⟨0,rfl,gb _⟩
  rw[←hw,hy];exact⟨_,rfl,rfl⟩
def Tf:∀(l:List Int) (a:Int),l.foldl min a=a\/l.foldl min a∈l
  |[],a=>.inl rfl
  | x::r,a=>by
    rcases Tf r (min a x)with h|h
    · rw[j7,h]
      by_cases c:a<=x
      · rw[Int.min_eq_left c];exact .inl rfl
      · rw[Int.min_eq_right n'];exact .inr fA
    · exact .inr (fp _ h)
def xR{l:List Int}(h:l≠[]):dT l∈l:=by
  unfold dT;cases l with
  |nil=>exact absurd rfl h
  | cons x r=>
    rcases Tf (x::r) ((x::r).headD 0)with e|e
    · rw[e];exact fA
    · exact e
def RE:∀(l:List Int) (a x:Int),(x=a\/x∈l)->l.foldl min a<=x
  |[],a,x,h=>by rcases h with rfl|h<;>simp at *
  | y::r,a,x,h=>by
    rw[j7];have j:=RE r (min a y) (min a y) (.inl rfl);rcases h with rfl|h
    · omega
    · rcases cI.1 h with rfl|h
      · omega
      · exact RE r _ x (.inr h)
def pr{l:List Int}(U:l.length<=1099511627776){b:Nat}(hb:b<l.length)(R:∀i,i<l.length->l.getD b a'<=l.getD i a')(h2:∀i,i<b->l.getD b a'<l.getD i a'):DU l (dT l)=bz (b:Int):=by
  have C:dT l=l.getD b a':=by
    have hm:l.getD b a'∈l:=Hu hb a';have hle:dT l<=l.getD b a':=by unfold dT;exact RE _ _ _ (.inr hm)
    obtain⟨i,hi,e⟩:=bS (xR (l:=l) (by rintro rfl;simp at hb));have:=R i hi;rw[Cl hi,e]at this;omega
  unfold DU
  rw[Mu (step:=Cr l (dT l) (l.length:Int)) (fun i=>dT l==l.getD i a') (fun j=>(j:Int)) l.length (fun i hi=>by
    simp only[Cr,cl,hi,decide_true,if_true,Aa,AB,h9,(Z4 i)];cases(dT l==l.getD i a')<;>rfl) (by simp[Cr])]
  have J:(c7 l.length).find? (fun i=>dT l==l.getD i a')=bz b:=by
    rw[List.find?_range_eq_some];refine⟨by simp[C],by simpa using hb,fun j I=>?_⟩;have:=h2 j I;rw[C,ek,beq_eq_false_iff_ne];omega
  rw[J];rfl
def AGo{l:List Int}(h0:0<l.length)(hl:l.length<=10000000):∃b:Nat,b<l.length/\LA l 0 (-1)=bz (b:Int)/\(∀i,i<l.length->l.getD b a'<=l.getD i a')/\∀i,i<b->l.getD b a'<l.getD i a':=by
  obtain⟨y,hy,b,rfl,q1,q2,q3⟩:=DN (step:=GJ l 0 (-1)) (fun s=>∃k:Nat,s.2=(k:Int)/\k<=l.length/\((k=0/\s.1=-1)\/∃b:Nat,s.1=(b:Int)/\b<k/\(∀i,i<k->l.getD b a'<=l.getD i a')/\∀i,i<b->l.getD b a'<l.getD i a'))
    (fun r=>∃b:Nat,r=(b:Int)/\b<l.length/\(∀i,i<l.length->l.getD b a'<=l.getD i a')/\∀i,i<b->l.getD b a'<l.getD i a') (fun s=>l.length-s.2.toNat) (by
    rintro⟨z,w⟩ ⟨k,R,hle,j⟩;have R:w=(k:Int):=R;subst R;have C:(b7 ((0:Int)<=(k:Int))&&b7 ((k:Int)<=-1))=dU:=t'
    by_cases c:k<l.length
    · left;have J:(k:Int)<(l.length:Int):=n'
      rcases j with⟨rfl,j⟩|⟨b,j,b1,I,b3⟩
      · have j:z=-1:=j;subst j;refine⟨(((0:Nat):Int),((0+1:Nat):Int)),?_,⟨1,rfl,n',.inr ⟨0,rfl,n',fun i hi=>by rw[show i=0 by omega];exact kR _,fun i hi=>absurd hi n'⟩⟩,by simp only[h9];omega⟩;simp only[GJ,J,decide_true,if_true,C,iR,if_false,(Z4 0)];rfl
      · have j:z=(b:Int):=j;subst j;have aa:b7 ((b:Int)<0)=false:=decide_eq_false n';have U:b<l.length:=n'
        simp only[GJ,J,decide_true,if_true,C,iR,if_false,aa,hH,dc,ef,Aa,c,U,AB,h9,(Z4 k)]
        by_cases h:l.getD k a'<l.getD b a'
        · rw[if_pos (decide_eq_true h)];refine⟨_,rfl,⟨k+1,rfl,c,.inr ⟨k,rfl,n',fun i hi=>?_,fun i hi=>?_⟩⟩,by simp only[h9];omega⟩
          · by_cases e:i=k
            · subst e;exact kR _
            · have:=I i n';omega
          · have:=I i hi;omega
        · rw[if_neg (by simpa using h)];refine⟨_,rfl,⟨k+1,rfl,c,.inr ⟨b,rfl,n',fun i hi=>?_,b3⟩⟩,by simp only[h9];omega⟩
          by_cases e:i=k
          · subst e;omega
          · exact I i n'
    · right;have J:¬ (k:Int)<(l.length:Int):=n'
      rcases j with⟨rfl,_⟩|⟨b,j,b1,I,b3⟩
      · omega
      · have j:z=(b:Int):=j;subst j;simp only[GJ,J,decide_false,iR,if_false];exact⟨_,rfl,b,rfl,n',fun i hi=>I i n',b3⟩) (s:=(-1,0)) ⟨0,rfl,gb _,.inl ⟨rfl,rfl⟩⟩
  unfold LA;rw[hy];exact⟨b,q1,rfl,q2,q3⟩
def qq{c:List AJ}{x:CI}(h0:1<=x.From)(h1:x.From<=x.To)(h2:x.To<=1000000)(h3:1<=x.Step)(h4:x.Step<=1000000)(hg:QK c=cb)(az:0<c.length)(ay:c.length<=100):
    ∃ps ls:List Int,FG x=bz ps/\FU c ps=bz ls/\Lv c x=bz ls/\0<ps.length/\ps.length<=1000001/\ls.length=ps.length/\∀j,j<ps.length->ps.getD j a'=x.From+x.Step*j/\ps.getD j a'<=x.To:=by
  obtain⟨m,hm⟩:∃m:Nat,(m:Int)=(x.To-x.From)/x.Step+1:=⟨((x.To-x.From)/x.Step+1).toNat,by
    have:=jn (show 0<=x.To-x.From by omega) (show 0<=x.Step by omega);omega⟩
  have e1:=eg (x.To-x.From) x.Step;have e2:=fu (x.To-x.From) (show x.Step≠0 by omega);have e3:=fi (x.To-x.From) (show 0<x.Step by omega);have bb:=jn (show 0<=x.To-x.From by omega) (show 0<=x.Step by omega)
  have ba:(x.To-x.From)/x.Step<=1000000:=by
    have:=Int.ediv_le_self x.Step (show 0<=x.To-x.From by omega);omega
  have hmul:∀j:Nat,(j:Int)<=(x.To-x.From)/x.Step->x.Step*(j:Int)<=x.Step*((x.To-x.From)/x.Step):=fun j C=>Int.mul_le_mul_of_nonneg_left C n'
  have J:∀j:Nat,j<m->x.From+x.Step*(j:Int)<=x.To:=fun j C=>by have:=hmul j n';omega
  have ab:∀j:Nat,0<=x.Step*(j:Int):=fun j=>kb n' n'
  have U:¬ x.From+x.Step*(m:Int)<=x.To:=by
    rw[hm,iB];omega
  have ae:∀j:Nat,x.From+x.Step*((j+1:Nat):Int)=x.From+x.Step*(j:Int)+x.Step:=fun j=>by rw[Int.natCast_add,iB];omega
  have hL:∀j:Nat,j<m->∃v,Dd c (x.From+x.Step*(j:Int))=bz v/\Fr c (x.From+x.Step*(j:Int))=bz v:=fun j C=>oD (by have:=ab j;omega) (by have:=J j C;omega) hg az ay
  obtain⟨P,R⟩:∃P:Nat->Int,P=fun j:Nat=>x.From+x.Step*(j:Int):=⟨_,rfl⟩
  obtain⟨L,a6⟩:∃L:Nat->Int,L=fun j:Nat=>(Dd c (x.From+x.Step*(j:Int))).getD 0:=⟨_,rfl⟩
  have au:∀j,j<m->Dd c (P j)=bz (L j)/\Fr c (P j)=bz (L j):=fun j C=>by
    obtain⟨v,a,b⟩:=hL j C;rw[R,a6];simp only[a,b,cB];exact⟨trivial,trivial⟩
  have aj:(∀j:Nat,j<m->((c7 m).map P).getD j a'=P j):=fun j C=>by simp[gdE,C]
  have aa:∀(f:Nat->Int) (j:Nat),(c7 (j+1)).map f=(c7 j).map f++[f j]:=fun f j=>by rw[List.range_succ,j6];rfl
  have w1:=Mv (step:=ED x) (fun j=>((c7 j).map P,P j)) m (r:=(c7 m).map P) (fun j C=>by
    have h5:=J j C;have h6:=ab j;have I:P j=x.From+x.Step*(j:Int):=by rw[R]
    have ad:P (j+1)=P j+x.Step:=by rw[R];exact ae j
    simp only[ED];rw[if_pos (decide_eq_true n'),Bl t',AB,aa,ad,Z1 n']) (by
    have I:P m=x.From+x.Step*(m:Int):=by rw[R]
    simp only[ED];rw[if_neg (by rw[I];simpa using U)])
  have w2:=Mv (step:=JM c x) (fun j=>((c7 j).map L,P j)) m (r:=(c7 m).map L) (fun j C=>by
    have h5:=J j C;have h6:=ab j;have I:P j=x.From+x.Step*(j:Int):=by rw[R]
    have ad:P (j+1)=P j+x.Step:=by rw[R];exact ae j
    simp only[JM];rw[if_pos (decide_eq_true n'),(au j C).2,en,Bl t',AB,aa,ad,Z1 n']) (by
    have I:P m=x.From+x.Step*(m:Int):=by rw[R]
    simp only[JM];rw[if_neg (by rw[I];simpa using U)])
  have w3:=MK (step:=EP c ((c7 m).map P) (((c7 m).map P).length:Int)) (fun j=>(c7 j).map L) m (r:=(c7 m).map L) (fun j C=>by
    have ax:((c7 m).map P).length=m:=p'
    simp only[EP,ax,cl,C,decide_true,if_true,Aa,AB,h9,aj j C,(au j C).1,en,(Z4 j)];rw[Bl t',AB,aa]) (by simp[EP])
  have a1:P 0=x.From:=by rw[R];simp
  simp only[j5,kn,a1]at w1 w2 w3;refine⟨(c7 m).map P,(c7 m).map L,?_,?_,?_,t',t',p',fun j C=>?_⟩
  · unfold FG;rw[w1];rfl
  · unfold FU;rw[w3];rfl
  · unfold Lv;rw[w2];rfl
  · have ao:j<m:=by simpa using C
    rw[aj j ao,R];exact⟨rfl,J j ao⟩
def pl(x:CI):∃b,FY x=bz b/\Ll x=bz b/\(b=cb->1<=x.From/\x.From<=x.To/\x.To<=1000000/\1<=x.Step/\x.Step<=1000000):=by
  unfold FY Ll Di KI;simp only[FV,Dr,en,df,cB,fx,AB]
  by_cases j:(1<=x.From/\x.From<=1000000)/\(x.From<=x.To/\x.To<=1000000)/\(1<=x.Step/\x.Step<=1000000)
  · obtain⟨a,b,c⟩:=j;have C:nz x.Step=true:=Oa n';simp only[a.1,a.2,b.1,b.2,c.1,c.2,decide_true,ke,dc,kc,iR,if_false,C,AB,df,cB,fx,e8,Bool.and_self];exact⟨_,rfl,rfl,fun _=>⟨trivial,trivial,trivial,trivial,trivial⟩⟩
  · have hF:(((b7 (1<=x.From)&&b7 (x.From<=1000000))&&(b7 (x.From<=x.To)&&b7 (x.To<=1000000)))&&(b7 (1<=x.Step)&&b7 (x.Step<=1000000)))=dU:=by
      rw[←Bool.not_eq_true];simp only[baT,dtE];exact fun h=>j ⟨h.1.1,h.1.2,h.2⟩
    have I:((!(b7 (1<=x.From)&&b7 (x.From<=1000000)) || !(b7 (x.From<=x.To)&&b7 (x.To<=1000000))) || !(b7 (1<=x.Step)&&b7 (x.Step<=1000000)))=cb:=by
      rw[←ks,←ks,hF];rfl
    rw[if_pos I];simp only[hF,hH,kp,AB,j'];exact⟨_,rfl,rfl,fun h=>by cases h⟩
def Yz{c:List AJ}{x:CI}(hl:c.length<=1000):∃v z,GS c x=bz (v,z)/\Cz c x=bz (v,z)/\QY v:=by
  unfold GS KC Cz LX MO;obtain⟨b,hb,R,hx⟩:=pl x;rw[Pl n',en,aV n',en];simp only[hb,R,df,cB,fx,AB];split
  · exact⟨_,_,rfl,rfl,by unfold QY;decide⟩
  · rename_i hv;simp only[j9,ek,not_or,iS,baT,dtE]at hv;obtain⟨⟨hg,ab⟩,J⟩:=hv;obtain⟨q1,q2,q3,q4,q5⟩:=hx J
    by_cases C:(40:Int)<(c.length:Int)
    · rw[if_pos (decide_eq_true C),if_pos (decide_eq_true C)];exact⟨0,5,rfl,rfl,by unfold QY;decide⟩
    · have n40:¬ (b7 ((40:Int)<(c.length:Int)))=cb:=by simpa using C
      rw[if_neg n40,if_neg n40]
      by_cases U:(c.length:Int)<3
      · rw[if_pos (decide_eq_true U),en,en,if_pos (show((0:Int)==0&&b7 ((c.length:Int)<3))=cb by simp[U])];exact⟨0,3,rfl,rfl,by unfold QY;decide⟩
      · obtain⟨ps,ls,e1,e2,e3,n1,n2,n3,n4⟩:=qq (c:=c) q1 q2 q3 q4 q5 hg n' n';obtain⟨j,j1,j2,j3,j4⟩:=AGo (l:=ls) n' n';have hm:nk ls=cb:=by unfold nk;simp;omega
        have I:b7 ((c.length:Int)<3)=false:=decide_eq_false U;obtain⟨p1,p2⟩:=n4 j n';have a6:0<=x.Step*(j:Int):=kb n' n';simp only[I,k7,iR,if_false,en,beq_self_eq_true,dc,e1,e3,j2];unfold Lc jE;rw[e2,en,if_pos hm,en,pr n' j1 j3 j4,en,Aa,decide_eq_true n',AB,h9,p1,Z1 (n:=x.Step*(j:Int)) n',Z1 n'];exact⟨_,_,rfl,rfl,by unfold QY;omega⟩
