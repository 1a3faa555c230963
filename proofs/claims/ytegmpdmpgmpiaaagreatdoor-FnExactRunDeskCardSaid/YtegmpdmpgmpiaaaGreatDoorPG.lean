/- Lemmas and walks, several texts in one. No condition. -/
import Derived.Test.YtegmpdmpgmpiaaaGreatDoorPF
import Derived.Test.YtegmpdmpgmpiaaaGreatDoorP3
open Bool renaming true->ca,eq_iff_iff->cc,not_true->db,false->dw,true_and->dX,false_or->ea,not_eq_true'->ef,or_true->fu,not_false->hr,and_eq_true_iff->hS,not_eq_false->h',or_eq_true->iN,false_and->iZ,and_false->j0,or_false->j8,and_true->j9,true_or->k7,not_and->k8
open Decidable renaming decide->b8
open Go.IntKind renaming i64->bR
open Go.Lib renaming minOf->ds,maxOf->gw
open Go.Proofs.YtegmpdmpgmpiaaaGreatDoor renaming obS->ej,tnC->gr,bfT->hZ
open Inhabited renaming default->a'
open Int renaming ofNat_lt->cb,mul_ediv_add_emod->ec,emod_lt_of_pos->fa,emod_nonneg->fm,mul_ediv_cancel_left->hG,mul_comm->hM,le_ediv_iff_mul_le->hN,ediv_eq_zero_of_lt->hO,ediv_lt_of_lt_mul->hQ,add_mul_ediv_left->hR,mul_add->hV,ediv_nonneg->iS,mul_nonneg->j7,add_comm->ka,mul_neg->kb,le_refl->ke
open List renaming take_append_drop->b9,length_map->bN,getElem_of_mem->bX,length_eq_zero_iff->b',append_assoc->c7,range->c8,pairwise_cons->cf,length_append->cl,pairwise_append->ct,map->cA,mem_cons->cL,finRange->cS,drop_eq_getElem_cons->dz,take_succ_eq_append_getElem->dT,filter_append->e7,nil_append->e8,append_nil->e9,takeWhile_cons_of_pos->ek,length_take->eu,mem_append->ew,mem_singleton->eL,length->e',length_cons->ff,mem_cons_of_mem->fi,takeWhile_cons_of_neg->fx,mem_cons_self->fy,drop_drop->fA,pairwise_iff_getElem->f',filter_cons->gf,take_of_length_le->gg,length_filter_le->gk,mem_filter->h7,length_nil->h8,dropLast_concat_getLast->h9,getElem?_append_right->hf,getElem_append_right->hz,getElem_append_left->hB,pairwise_singleton->hE,length_eq_one_iff->hH,getElem?_map->hW,drop_sublist->hX,length_drop->ic,cons_append->ik,range_zero->ir,map_append->ix,foldl_cons->iB,filter_nil->iI,take_zero->iR,sum_cons->j5,map_cons->j6,mem_map->j',map_nil->k0
open List.Pairwise renaming nil->ev,sublist->fI
open Nat renaming le_refl->df,zero_le->gb,lt_or_ge->gj,eq_zero_or_pos->gn,add_mul->g',add_assoc->hC,zero_add->hI,le_trans->hJ,sub_self->k9
open Option renaming some->bI,map_some->bS,getD_some->cI,isSome_some->dc
open Sum renaming map_inr->en,map_inl->et,map->ga
set_option linter.defProp false
set_option linter.unnecessarySimpa false
set_option linter.unusedSectionVars false
set_option linter.unusedSimpArgs false
set_option linter.unusedVariables false
open Go.IntKind (i64 u64)
noncomputable section
namespace Go.Proofs.YtegmpdmpgmpiaaaGreatDoor.stab
open Go Go.RowKit Go.Proofs.YtegmpdmpgmpiaaaGreatDoor
def MJ{α:Type}[Inhabited α](cmp:α->α->Option Int)(a b i:Int):((List α)×Int)->Option (((List α)×Int)⊕(List α))
 | (data,j)=>ck (!(b8 (a<j))||AU j data.length) <|ck (!(b8 (a<j))||AU (bR.wrap (j-1)) data.length) <|ck (!(b8 (a<j))||(cmp (data.getD j.toNat a') (data.getD (bR.wrap (j-1)).toNat a')).isSome) <|if ((b8 (a<j))&&(b8 (((cmp (data.getD j.toNat a') (data.getD (bR.wrap (j-1)).toNat a')).getD a')<0))) then ck (AU (bR.wrap (j-1)) data.length) <|ck (AU j data.length) <|some (.inl (((data.set j.toNat (data.getD (bR.wrap (j-1)).toNat a')).set ((bR.wrap (j-1)).toNat) (data.getD j.toNat a')),(bR.wrap (j-1)))) else bI (.inr data)
def MK{α:Type}[Inhabited α](cmp:α->α->Option Int)(a b:Int):((List α)×Int)->Option (((List α)×Int)⊕(List α))
 | (data,i)=>if (b8 (i<b)) then (AE (MJ cmp a b i) (data,i)).bind fun g=>bI (.inl (g,(bR.wrap (i+1)))) else bI (.inr data)
def lA{α:Type}[Inhabited α](cmp:α->α->Option Int)(data:List α)(a b:Int):Option (List α) :=(AE (MK cmp a b) (data,(bR.wrap (a+1)))).bind fun g=>ck (g.length==data.length) <|some g
def OH{α:Type}[Inhabited α](a b n:Int):((List α)×Int)->Option (((List α)×Int)⊕(List α))
 | (data,i)=>if (b8 (i<n)) then ck (AU (bR.wrap (b+i)) data.length) <|ck (AU (bR.wrap (a+i)) data.length) <|some (.inl (((data.set ((bR.wrap (a+i)).toNat) (data.getD (bR.wrap (b+i)).toNat a')).set ((bR.wrap (b+i)).toNat) (data.getD (bR.wrap (a+i)).toNat a')),(bR.wrap (i+1)))) else bI (.inr data)
def ky{α:Type}[Inhabited α](data:List α)(a b n:Int):Option (List α) :=(AE (OH a b n) (data,0)).bind fun g=>ck (g.length==data.length) <|some g
def MI{α:Type}[Inhabited α](m:Int):((List α)×Int×Int)->Option (((List α)×Int×Int)⊕((List α)×Int))
 | (data,i,j)=>if (!(i==j)) then if (b8 (j<i)) then (ky data (bR.wrap (m-i)) m j).bind fun o=>bI (.inl (o,(bR.wrap (i-j)),j)) else (ky data (bR.wrap (m-i)) (bR.wrap ((bR.wrap (m+j))-i)) i).bind fun g=>bI (.inl (g,i,(bR.wrap (j-i)))) else bI (.inr (data,i))
def gI{α:Type}[Inhabited α](data:List α)(a m b:Int):Option (List α) :=(AE (MI m) (data,(bR.wrap (m-a)),(bR.wrap (b-m)))).bind fun g=>(ky g.1 (bR.wrap (m-g.2)) m g.2).bind fun i=>ck (i.length==data.length) <|some i
def Pw{α:Type}[Inhabited α](cmp:α->α->Option Int)(data:List α)(a:Int):(Int×Int)->Option ((Int×Int)⊕Int)
 | (i,j)=>if (b8 (i<j)) then ck (SL 1) <|ck (AU (hF (i+j)) data.length) <|ck (AU a data.length) <|(cmp (data.getD (hF (i+j)).toNat a') (data.getD a.toNat a')).bind fun g=>if (b8 (g<0)) then bI (.inl ((bR.wrap ((hF (i+j))+1)),j)) else bI (.inl (i,(hF (i+j)))) else bI (.inr i)
def MH{α:Type}[Inhabited α](i:Int):((List α)×Int)->Option (((List α)×Int)⊕(List α))
 | (data,k)=>if (b8 (k<(bR.wrap (i-1)))) then ck (AU (bR.wrap (k+1)) data.length) <|ck (AU k data.length) <|some (.inl (((data.set k.toNat (data.getD (bR.wrap (k+1)).toNat a')).set ((bR.wrap (k+1)).toNat) (data.getD k.toNat a')),(bR.wrap (k+1)))) else bI (.inr data)
def Pv{α:Type}[Inhabited α](cmp:α->α->Option Int)(data:List α)(m:Int):(Int×Int)->Option ((Int×Int)⊕Int)
 | (i,j)=>if (b8 (i<j)) then ck (SL 1) <|ck (AU m data.length) <|ck (AU (hF (i+j)) data.length) <|(cmp (data.getD m.toNat a') (data.getD (hF (i+j)).toNat a')).bind fun g=>if (!(b8 (g<0))) then bI (.inl ((bR.wrap ((hF (i+j))+1)),j)) else bI (.inl (i,(hF (i+j)))) else bI (.inr i)
def MG{α:Type}[Inhabited α](i:Int):((List α)×Int)->Option (((List α)×Int)⊕(List α))
 | (data,k)=>if (b8 (i<k)) then ck (AU (bR.wrap (k-1)) data.length) <|ck (AU k data.length) <|some (.inl (((data.set k.toNat (data.getD (bR.wrap (k-1)).toNat a')).set ((bR.wrap (k-1)).toNat) (data.getD k.toNat a')),(bR.wrap (k-1)))) else bI (.inr data)
def NB{α:Type}[Inhabited α](cmp:α->α->Option Int)(data:List α)(a m b i n p:Int):(Int×Int)->Option ((Int×Int)⊕Int)
 | (start,r)=>if (b8 (start<r)) then ck (SL 1) <|ck (AU (bR.wrap (p-(hF (start+r)))) data.length) <|ck (AU (hF (start+r)) data.length) <|(cmp (data.getD (bR.wrap (p-(hF (start+r)))).toNat a') (data.getD (hF (start+r)).toNat a')).bind fun g=>if (!(b8 (g<0))) then bI (.inl ((bR.wrap ((hF (start+r))+1)),r)) else bI (.inl (start,(hF (start+r)))) else bI (.inr start)
def Ru{α:Type}[Inhabited α](cmp:α->α->Option Int)(data:List α)(a m b i n p:Int):(Int×Int)->Option ((Int×Int)⊕Int)
 | (start,r)=>if (b8 (start<r)) then ck (SL 1) <|ck (AU (bR.wrap (p-(hF (start+r)))) data.length) <|ck (AU (hF (start+r)) data.length) <|(cmp (data.getD (bR.wrap (p-(hF (start+r)))).toNat a') (data.getD (hF (start+r)).toNat a')).bind fun g=>if (!(b8 (g<0))) then bI (.inl ((bR.wrap ((hF (start+r))+1)),r)) else bI (.inl (start,(hF (start+r)))) else bI (.inr start)
def Da{α:Type}[Inhabited α](cmp:α->α->Option Int):Nat->(List α)->Int->Int->Int->Option (List α)
 | 0,_,_,_,_=>none
 | p+1,data,a,m,b=>if ((bR.wrap (m-a))==1) then (AE (Pw cmp data a) (m,b)).bind fun av=>(AE (MH av) (data,a)).bind fun ao=>ck (ao.length==data.length) <|some ao else if ((bR.wrap (b-m))==1) then (AE (Pv cmp data m) (a,m)).bind fun au=>(AE (MG au) (data,m)).bind fun aj=>ck (aj.length==data.length) <|some aj else ck (SL 1) <|if (b8 ((hF (a+b))<m)) then (AE (NB cmp data a m b (hF (a+b)) (bR.wrap ((hF (a+b))+m)) (bR.wrap ((bR.wrap ((hF (a+b))+m))-1))) ((bR.wrap ((bR.wrap ((hF (a+b))+m))-b)),(hF (a+b)))).bind fun i=>if ((b8 (i<m))&&(b8 (m<(bR.wrap ((bR.wrap ((hF (a+b))+m))-i))))) then (gI data i m (bR.wrap ((bR.wrap ((hF (a+b))+m))-i))).bind fun o=>if ((b8 (a<i))&&(b8 (i<(hF (a+b))))) then (Da cmp p o a i (hF (a+b))).bind fun P=>if ((b8 ((hF (a+b))<(bR.wrap ((bR.wrap ((hF (a+b))+m))-i))))&&(b8 ((bR.wrap ((bR.wrap ((hF (a+b))+m))-i))<b))) then (Da cmp p P (hF (a+b)) (bR.wrap ((bR.wrap ((hF (a+b))+m))-i)) b).bind fun ae=>ck (ae.length==data.length) <|some ae else ck (P.length==data.length) <|some P else if ((b8 ((hF (a+b))<(bR.wrap ((bR.wrap ((hF (a+b))+m))-i))))&&(b8 ((bR.wrap ((bR.wrap ((hF (a+b))+m))-i))<b))) then (Da cmp p o (hF (a+b)) (bR.wrap ((bR.wrap ((hF (a+b))+m))-i)) b).bind fun ad=>ck (ad.length==data.length) <|some ad else ck (o.length==data.length) <|some o else if ((b8 (a<i))&&(b8 (i<(hF (a+b))))) then (Da cmp p data a i (hF (a+b))).bind fun J=>if ((b8 ((hF (a+b))<(bR.wrap ((bR.wrap ((hF (a+b))+m))-i))))&&(b8 ((bR.wrap ((bR.wrap ((hF (a+b))+m))-i))<b))) then (Da cmp p J (hF (a+b)) (bR.wrap ((bR.wrap ((hF (a+b))+m))-i)) b).bind fun ac=>ck (ac.length==data.length) <|some ac else ck (J.length==data.length) <|some J else if ((b8 ((hF (a+b))<(bR.wrap ((bR.wrap ((hF (a+b))+m))-i))))&&(b8 ((bR.wrap ((bR.wrap ((hF (a+b))+m))-i))<b))) then (Da cmp p data (hF (a+b)) (bR.wrap ((bR.wrap ((hF (a+b))+m))-i)) b).bind fun ab=>ck (ab.length==data.length) <|some ab else bI data else (AE (Ru cmp data a m b (hF (a+b)) (bR.wrap ((hF (a+b))+m)) (bR.wrap ((bR.wrap ((hF (a+b))+m))-1))) (a,m)).bind fun g=>if ((b8 (g<m))&&(b8 (m<(bR.wrap ((bR.wrap ((hF (a+b))+m))-g))))) then (gI data g m (bR.wrap ((bR.wrap ((hF (a+b))+m))-g))).bind fun j=>if ((b8 (a<g))&&(b8 (g<(hF (a+b))))) then (Da cmp p j a g (hF (a+b))).bind fun I=>if ((b8 ((hF (a+b))<(bR.wrap ((bR.wrap ((hF (a+b))+m))-g))))&&(b8 ((bR.wrap ((bR.wrap ((hF (a+b))+m))-g))<b))) then (Da cmp p I (hF (a+b)) (bR.wrap ((bR.wrap ((hF (a+b))+m))-g)) b).bind fun aa=>ck (aa.length==data.length) <|some aa else ck (I.length==data.length) <|some I else if ((b8 ((hF (a+b))<(bR.wrap ((bR.wrap ((hF (a+b))+m))-g))))&&(b8 ((bR.wrap ((bR.wrap ((hF (a+b))+m))-g))<b))) then (Da cmp p j (hF (a+b)) (bR.wrap ((bR.wrap ((hF (a+b))+m))-g)) b).bind fun U=>ck (U.length==data.length) <|some U else ck (j.length==data.length) <|some j else if ((b8 (a<g))&&(b8 (g<(hF (a+b))))) then (Da cmp p data a g (hF (a+b))).bind fun C=>if ((b8 ((hF (a+b))<(bR.wrap ((bR.wrap ((hF (a+b))+m))-g))))&&(b8 ((bR.wrap ((bR.wrap ((hF (a+b))+m))-g))<b))) then (Da cmp p C (hF (a+b)) (bR.wrap ((bR.wrap ((hF (a+b))+m))-g)) b).bind fun T=>ck (T.length==data.length) <|some T else ck (C.length==data.length) <|some C else if ((b8 ((hF (a+b))<(bR.wrap ((bR.wrap ((hF (a+b))+m))-g))))&&(b8 ((bR.wrap ((bR.wrap ((hF (a+b))+m))-g))<b))) then (Da cmp p data (hF (a+b)) (bR.wrap ((bR.wrap ((hF (a+b))+m))-g)) b).bind fun R=>ck (R.length==data.length) <|some R else bI data
def kx{α:Type}[Inhabited α](cmp:α->α->Option Int)(data:List α)(a m b:Int):Option (List α):=Da cmp 64 data a m b
def Lb{α:Type}[Inhabited α](cmp:α->α->Option Int)(n g:Int):((List α)×Int×Int)->Option (((List α)×Int×Int)⊕((List α)×Int))
 | (data,a,b)=>if (b8 (b<=n)) then (lA cmp data a b).bind fun i=>bI (.inl (i,b,(bR.wrap (b+g)))) else bI (.inr (data,a))
def Kf{α:Type}[Inhabited α](cmp:α->α->Option Int)(n g:Int):((List α)×Int×Int)->Option (((List α)×Int×Int)⊕((List α)×Int))
 | (data,a,b)=>if (b8 (b<=n)) then (kx cmp data a (bR.wrap (a+g)) b).bind fun i=>bI (.inl (i,b,(bR.wrap (b+(bR.wrap (2*g)))))) else bI (.inr (data,a))
def Jg{α:Type}[Inhabited α](cmp:α->α->Option Int)(n:Int):((List α)×Int)->Option (((List α)×Int)⊕(List α))
 | (data,g)=>if (b8 (g<n)) then (AE (Kf cmp n g) (data,0,(bR.wrap (2*g)))).bind fun i=>if (b8 ((bR.wrap (i.2+g))<n)) then (kx cmp i.1 i.2 (bR.wrap (i.2+g)) n).bind fun j=>bI (.inl (j,(bR.wrap (g*2)))) else bI (.inl (i.1,(bR.wrap (g*2)))) else bI (.inr data)
def cN{α:Type}[Inhabited α](cmp:α->α->Option Int)(data:List α)(n:Int):Option (List α) :=(AE (Lb cmp n 20) (data,0,20)).bind fun i=>(lA cmp i.1 i.2 n).bind fun j=>(AE (Jg cmp n) (j,20)).bind fun g=>ck (g.length==data.length) <|some g
section
variable {α:Type}
structure jR(lt:α->α->Bool):Prop where
 asym:∀ x y,lt x y=ca->lt y x=dw
 trans:∀ x y z,lt y x=dw->lt z y=dw->lt z x=dw
def Mq(lt:α->α->Bool)(l:List α):Prop:=l.Pairwise fun x y=>lt y x=dw
def zc(lt:α->α->Bool)(z x:α):Bool:=!lt x z && !lt z x
structure JD(lt:α->α->Bool)(l l':List α):Prop where
 perm:l'.Perm l
 same:∀ z,l'.filter (zc lt z)=l.filter (zc lt z)
variable {lt:α->α->Bool}
theorem JD.refl(l:List α):JD lt l l:=⟨List.Perm.refl _,fun _=>rfl⟩
theorem JD.trans{a b c:List α}(h:JD lt a b)(k:JD lt b c):JD lt a c:=⟨k.perm.trans h.perm,fun z=>(k.same z).trans (h.same z)⟩
theorem JD.app{a b c d:List α}(h:JD lt a b)(k:JD lt c d):JD lt (a++c) (b++d):=⟨h.perm.append k.perm,fun z=>by rw[e7,e7,h.same,k.same]⟩
theorem JD.len{a b:List α}(h:JD lt a b):b.length=a.length:=h.perm.length_eq
theorem JD.mem{a b:List α}(h:JD lt a b){x:α}:x∈b ↔ x∈a:=h.perm.mem_iff
theorem UU(O:jR lt)(x:α):lt x x=dw:=by
 cases h:lt x x with
 | false=>rfl
 | true=>exact (O.asym x x h).symm.trans h |>.symm▸rfl
theorem JD.swap(O:jR lt){u v:List α}(h:∀ x∈u,∀ y∈v,lt y x=ca):JD lt (u++v) (v++u):=by
 refine⟨List.perm_append_comm,fun z=>?_⟩;rw[e7,e7]
 by_cases o:u.filter (zc lt z)=[]
 ·rw[o];simp
 ·have I:v.filter (zc lt z)=[]:=by
   rw[List.filter_eq_nil_iff];intro y p i;obtain⟨x,C⟩:=List.exists_mem_of_ne_nil _ o;obtain⟨j,g⟩:=h7.1 C;unfold zc at i g;simp only[baT,ef] at i g;have:=O.trans x z y g.2 i.1;rw[h x j y p] at this;cases this
  rw[I];simp
theorem Rd{u v:List α}(i:Mq lt u)(g:Mq lt v)(h:∀ x∈u,∀ y∈v,lt y x=dw):Mq lt (u++v):=ct.2 ⟨i,g,h⟩
theorem YK(O:jR lt):∀ {a b:List α},Mq lt a->Mq lt b->JD lt a b->a=b
 | [],b,_,_,h=>by
  have:=h.len;simp at this;exact this.symm
 | x::a,[],_,_,h=>by
  have:=h.len;simp at this
 | x::a,y::b,P,J,h=>by
  obtain⟨pa,C⟩:=cf.1 P;obtain⟨I,p⟩:=cf.1 J
  have j:lt y x=dw:=by
   rcases cL.1 (h.mem.1 (fy:y∈y::b)) with e|e
   ·rw[e];exact UU O x
   ·exact pa y e
  have i:lt x y=dw:=by
   rcases cL.1 (h.mem.2 (fy:x∈x::a)) with e|e
   ·rw[e];exact UU O y
   ·exact I x e
  have o:=h.same x;have U:zc lt x y=ca:=by unfold zc;rw[j,i];rfl
  have T:zc lt x x=ca:=by unfold zc;rw[UU O x];rfl
  rw[gf,if_pos U,gf,if_pos T] at o;have R:y=x:=(List.cons.inj o).1;subst R
  congr 1
  refine YK O C p ⟨List.perm_cons _ |>.1 h.perm,fun z=>?_⟩;have g:=h.same z;rw[gf,gf] at g;split at g
  ·exact (List.cons.inj g).2
  ·exact g
end
section
variable {α:Type}[Inhabited α]{cmp:α->α->Option Int}{lt:α->α->Bool}
def PX(cmp:α->α->Option Int)(lt:α->α->Bool):Prop:=∀ x y,∃ k,cmp x y=bI k∧b8 (k<0)=lt x y
theorem kw(P:List α)(x:α)(R:List α):(P++x::R).getD P.length a'=x:=by
 rw[gdE,hf (df _),k9];rfl
theorem vQ(P:List α)(x y:α)(R:List α):(P++x::R).set P.length y=P++y::R:=by
 rw[List.set_append_right _ _ (df _),k9];rfl
theorem xN(P:List α)(x y:α)(R:List α):(P++x::y::R).getD (P.length+1) a'=y:=by
 have:=kw (P++[x]) y R;simpa using this
theorem ACO(P:List α)(x y z:α)(R:List α):(P++x::y::R).set (P.length+1) z=P++x::z::R:=by
 have:=vQ (P++[x]) y z R;simpa using this
theorem mW(P:List α)(x y:α)(R:List α):((P++x::y::R).set (P.length+1) x).set P.length y=P++y::x::R∧((P++x::y::R).set P.length y).set (P.length+1) x=P++y::x::R:=by
 rw[ACO,vQ,vQ,ACO];exact⟨rfl,rfl⟩
theorem Ud(J:PX cmp lt)(P:List α)(x y:α)(R:List α){a:Nat}(b i:Int)(ha:a<=P.length)(U:(P++y::x::R).length<=1099511627776):
  MJ cmp (a:Int) b i (P++y::x::R,((P.length+1:Nat):Int))=bI (if lt x y=ca then .inl (P++x::y::R,(P.length:Int)) else .inr (P++y::x::R)):=by
 have j:(P++y::x::R).length=P.length+(R.length+2):=by simp
 have o:bR.wrap (((P.length+1:Nat):Int)-1)=(P.length:Int):=by rw[Z1 (by omega)];omega
 have T:b8 ((a:Int)<((P.length+1:Nat):Int))=true:=decide_eq_true (by omega);have C:AU ((P.length+1:Nat):Int) (P++y::x::R).length=true:=Z2 (by omega);have p:AU (P.length:Int) (P++y::x::R).length=true:=Z2 (by omega);obtain⟨k,I,g⟩:=J x y;unfold MJ;simp only[o,T,C,p,gr,kw,xN,I,g,dc,cI,db,ea,dX,AB];rw[(mW P y x R).1];split<;>rfl
theorem xB(D:List α)(a:Nat)(b i:Int):MJ cmp (a:Int) b i (D,(a:Int))=bI (.inr D):=by
 unfold MJ;simp[AB]
theorem AGa(hc:PX cmp lt)(O:jR lt)(g o:List α)(b i:Int)(x:α):∀ (n:Nat) (C j:List α),C.length=n->Mq lt (C++j)->(∀ z∈j,lt x z=ca) ->
  (g++(C++x::(j++o))).length<=1099511627776 ->
  ∃ w,AE (MJ cmp (g.length:Int) b i) (g++(C++x::(j++o)),((g.length+C.length:Nat):Int))=bI (g++(w++o))∧Mq lt w∧JD lt (C++j++[x]) w:=by
 intro n
 induction n with
 | zero=>
  intro C j R hs J T;obtain rfl:=b'.1 R;refine⟨x::j,Ae (xB _ _ _ _),cf.2 ⟨fun z p=>O.asym _ _ (J z p),(show Mq lt j by simpa using hs)⟩,?_⟩;have:=JD.swap O (u:=j) (v:=[x]) (fun z p y U=>by rw[eL.1 U];exact J z p);simpa using this
 | succ n ih=>
  intro C j R hs J T;obtain⟨t,y,rfl⟩:∃ t y,C=t++[y]:=⟨C.dropLast,C.getLast (by intro e;rw[e] at R;simp at R),(h9 _).symm⟩;have ht:t.length=n:=by simpa using R
  have e:g++(t++[y]++x::(j++o))=(g++t)++y::x::(j++o):=by simp
  have st:=Ud hc (g++t) x y (j++o) (a:=g.length) b i (by simp) (by rw[← e];exact T);have el:g.length+(t++[y]).length=(g++t).length+1:=by simp;omega
  rw[el,e]
  by_cases q:lt x y=ca
  ·rw[if_pos q] at st;rw[Ak st];have e2:(g++t)++x::y::(j++o)=g++(t++x::(y::j++o)):=by simp
   have aa:((g++t).length:Int)=((g.length+t.length:Nat):Int):=by simp
   rw[e2,aa]
   obtain⟨w,h1,h2,h3⟩:=ih t (y::j) ht (by simpa using hs) (fun z p=>by
    rcases cL.1 p with rfl|p
    ·exact q
    ·exact J z p) (by rw[← e2];rw[e] at T;simpa using T)
   exact⟨w,h1,h2,by simpa using h3⟩
  ·rw[if_neg q] at st;have q':lt x y=dw:=by simpa using q
   refine⟨t++[y]++x::j,?_,?_,?_⟩
   ·rw[Ae st];simp
   ·have I:=ct.1 hs;refine Rd I.1 (cf.2 ⟨fun z p=>O.asym _ _ (J z p),I.2.1⟩) fun z p v P=>?_
    have U:lt y z=dw:=by
     rcases ew.1 p with h|h
     ·exact (ct.1 I.1).2.2 z h y (by simp)
     ·rw[eL.1 h];exact UU O y
    rcases cL.1 P with rfl|P
    ·exact O.trans _ _ _ U q'
    ·exact I.2.2 z p v P
   ·have:=(JD.refl (lt:=lt) (t++[y])).app (JD.swap O (u:=j) (v:=[x]) (fun z p v P=>by rw[eL.1 P];exact J z p));simpa using this
theorem qY(I:PX cmp lt)(O:jR lt)(g i:List α):∀ (t s:List α),Mq lt s->(g++(s++(t++i))).length<=1099511627776 ->
  ∃ w,AE (MK cmp (g.length:Int) ((g.length+(s.length+t.length):Nat):Int)) (g++(s++(t++i)),((g.length+s.length:Nat):Int))=bI (g++(w++i))∧Mq lt w∧JD lt (s++t) w
 | [],s,hs,p=>⟨s,Ae (by unfold MK;dsimp only;rw[if_neg (by simp)];simp),hs,by rw[e9];exact JD.refl _⟩
 | x::t,s,hs,p=>by
  have R:g.length+(s.length+(t.length+1+i.length))<=1099511627776:=by simpa[hC,Nat.add_comm,Nat.add_left_comm] using p
  obtain⟨j,U,h2,T⟩:=AGa I O g (t++i) ((g.length+(s.length+(x::t).length):Nat):Int) ((g.length+s.length:Nat):Int) x s.length s [] rfl (by simpa using hs) (by simp) (by simpa using p);have J:JD lt (s++[x]) j:=by simpa using T
  have o:j.length=s.length+1:=by rw[J.len];simp
  have st:MK cmp (g.length:Int) ((g.length+(s.length+(x::t).length):Nat):Int) (g++(s++(x::t++i)),((g.length+s.length:Nat):Int))=bI (.inl (g++(j++(t++i)),((g.length+j.length:Nat):Int))):=by
   unfold MK;have e0:b8 (((g.length+s.length:Nat):Int)<((g.length+(s.length+(x::t).length):Nat):Int))=true:=decide_eq_true (by simp;omega);simp only[e0,if_true];have C:AE (MJ cmp (g.length:Int) ((g.length+(s.length+(x::t).length):Nat):Int) ((g.length+s.length:Nat):Int)) (g++(s++(x::t++i)),((g.length+s.length:Nat):Int))=bI (g++(j++(t++i))):=by simpa using U
   rw[C,ej,Aa (by omega),o];rfl
  rw[Ak st];obtain⟨w,k1,k2,P⟩:=qY I O g i t j h2 (by simp[o];omega);refine⟨w,?_,k2,?_⟩
  ·have:g.length+(s.length+(x::t).length)=g.length+(j.length+t.length):=by rw[o];simp;omega
   rw[this];exact k1
  ·have:=JD.trans (J.app (JD.refl t)) P;simpa using this
theorem ft(J:PX cmp lt)(O:jR lt)(g j i:List α)(p:(g++(j++i)).length<=1099511627776):
  ∃ w,lA cmp (g++(j++i)) (g.length:Int) ((g.length+j.length:Nat):Int)=bI (g++(w++i))∧Mq lt w∧JD lt j w:=by
 have I:g.length+(j.length+i.length)<=1099511627776:=by simpa using p
 unfold lA;rw[Aa (by omega)];cases j with
 | nil=>
  refine⟨[],?_,ev,JD.refl _⟩;rw[Ae (r:=g++([]++i)) (by unfold MK;dsimp only;rw[if_neg (by simp;omega)])];simp[AB]
 | cons x t=>
  obtain⟨w,k1,k2,o⟩:=qY J O g i t [x] (hE _ _) (by simpa using p);refine⟨w,?_,k2,by simpa using o⟩;have C:w.length=t.length+1:=by rw[o.len];simp
  have e:g.length+([x].length+t.length)=g.length+(x::t).length:=by simp;omega
  have R:g++([x]++(t++i))=g++(x::t++i):=by simp
  have P:((g.length+[x].length:Nat):Int)=((g.length+1:Nat):Int):=rfl;rw[e,R,P] at k1;rw[k1,ej];have:((g++(w++i)).length==(g++(x::t++i)).length)=ca:=by simp[C];omega
  rw[this,AB]
end
section
variable {α:Type}[Inhabited α]
theorem jY(j:List α)(a b n:Nat)(hb:b<=1099511627776)(ha:a<=1099511627776)(U:n<=1099511627776):∀ (x y pre g:List α) (i:Nat),x.length=y.length->a+i=pre.length->b+i=pre.length+x.length+g.length->i+x.length=n ->
  AE (OH (α:=α) (a:Int) (b:Int) (n:Int)) (pre++(x++(g++(y++j))),(i:Int))=bI (pre++(y++(g++(x++j))))
 | [],[],pre,g,i,_,_,_,h=>Ae (by
   have:i=n:=by simpa using h
   unfold OH;dsimp only;rw[if_neg (by simp[this])])
 | [],_::_,_,_,_,h,_,_,_=>by simp at h
 | _::_,[],_,_,_,h,_,_,_=>by simp at h
 | x1::x,o::y,pre,g,i,h,h1,h2,h3=>by
  have p:x.length=y.length:=by simpa using h
  simp only[ff] at h2 h3;have J:bR.wrap ((a:Int)+(i:Int))=(pre.length:Int):=by rw[Z1 (by omega)];omega
  have w2:bR.wrap ((b:Int)+(i:Int))=((pre++x1::(x++g)).length:Int):=by
   have:(pre++x1::(x++g)).length=b+i:=by simp;omega
   rw[this,Z1 (by omega)];omega
  have I:pre++(x1::x++(g++(o::y++j)))=(pre++x1::(x++g))++o::(y++j):=by simp
  have C:pre++(x1::x++(g++(o::y++j)))=pre++x1::(x++(g++(o::y++j))):=by simp
  have g1:(pre++(x1::x++(g++(o::y++j)))).getD pre.length a'=x1:=by rw[C];exact kw _ _ _
  have g2:(pre++(x1::x++(g++(o::y++j)))).getD (pre++x1::(x++g)).length a'=o:=by rw[I];exact kw _ _ _
  have P:((pre++(x1::x++(g++(o::y++j)))).set pre.length o).set (pre++x1::(x++g)).length x1=(pre++[o])++(x++((g++[x1])++(y++j))):=by
   rw[C,vQ];have:pre++o::(x++(g++(o::y++j)))=(pre++o::(x++g))++o::(y++j):=by simp
   have l:(pre++x1::(x++g)).length=(pre++o::(x++g)).length:=by simp
   rw[this,l,vQ];simp
  have T:AU (pre.length:Int) (pre++(x1::x++(g++(o::y++j)))).length=true:=Di (by omega) (by simp;omega);have R:AU ((pre++x1::(x++g)).length:Int) (pre++(x1::x++(g++(o::y++j)))).length=true:=Di (by omega) (by rw[I];simp;omega)
  have st:OH (a:Int) (b:Int) (n:Int) (pre++(x1::x++(g++(o::y++j))),(i:Int))=bI (.inl ((pre++[o])++(x++((g++[x1])++(y++j))),((i+1:Nat):Int))):=by
   unfold OH;have e0:b8 ((i:Int)<(n:Int))=true:=decide_eq_true (by omega);simp only[e0,if_true,J,w2,T,R,AB,gr,g1,g2,P,(Z4 i)]
  rw[Ak st,jY j a b n hb ha U x y (pre++[o]) (g++[x1]) (i+1) p (by simp;omega) (by simp;omega) (by omega)];simp
theorem ma(g x i y j:List α)(h:x.length=y.length)(C:(g++(x++(i++(y++j)))).length<=1099511627776){a b n:Int}(J:a=(g.length:Int))(I:b=((g.length+x.length+i.length:Nat):Int))(o:n=(x.length:Int)):
  ky (g++(x++(i++(y++j)))) a b n=bI (g++(y++(i++(x++j)))):=by
 subst J I o;have p:g.length+(x.length+(i.length+(y.length+j.length)))<=1099511627776:=by simpa using C
 unfold ky;have:=jY j g.length (g.length+x.length+i.length) x.length (by omega) (by omega) (by omega) x y g i 0 h rfl rfl (by omega);have P:((0:Nat):Int)=0:=rfl;rw[P] at this;rw[this,ej];have e:((g++(y++(i++(x++j)))).length==(g++(x++(i++(y++j)))).length)=ca:=by simp[h]
 rw[e,AB]
theorem vU(m:Nat)(hm:m<=1099511627776):∀ (k:Nat) (u v A B:List α),u.length+v.length<=k->0<u.length->0<v.length->m=A.length+u.length->(A++(u++(v++B))).length<=1099511627776 ->
  ∃ p j o C,AE (MI (α:=α) (m:Int)) (A++(u++(v++B)),(u.length:Int),(v.length:Int))=bI (p++(j++(o++C)),(j.length:Int))∧j.length=o.length∧m=p.length+j.length∧p++(o++(j++C))=A++(v++(u++B))∧(p++(j++(o++C))).length=(A++(u++(v++B))).length:=by
 intro k
 induction k with
 | zero=>intro u v A B h hu hv;omega
 | succ k ih=>
  intro u v A B h hu hv hA hl;have ax:A.length+(u.length+(v.length+B.length))<=1099511627776:=by simpa using hl
  by_cases q:u.length=v.length
  ·refine⟨A,u,v,B,Ae ?_,q,hA,rfl,rfl⟩;unfold MI;dsimp only;rw[if_neg (by simp[q])]
  ·have q1:(!((u.length:Int)==(v.length:Int)))=ca:=by simp;omega
   have wm:bR.wrap ((m:Int)-(u.length:Int))=(A.length:Int):=by rw[Z1 (by omega)];omega
   by_cases q2:v.length<u.length
   ·obtain⟨i,g,rfl,I⟩:∃ i g,u=i++g∧i.length=v.length:=⟨u.take v.length,u.drop v.length,(b9 _ _).symm,by simp;omega⟩;have aj:(i++g).length=i.length+g.length:=cl;have e:A++(i++g++(v++B))=A++(i++(g++(v++B))):=by simp
    have J:=ma A i g v B I (by rw[← e];exact hl) (a:=(A.length:Int)) (b:=(m:Int)) (n:=(v.length:Int)) rfl (by omega) (by omega)
    have st:MI (m:Int) (A++(i++g++(v++B)),((i++g).length:Int),(v.length:Int))=bI (.inl ((A++v)++(g++(i++B)),(g.length:Int),(i.length:Int))):=by
     unfold MI;have U:b8 ((v.length:Int)<((i++g).length:Int))=true:=decide_eq_true (by omega);have w2:bR.wrap (((i++g).length:Int)-(v.length:Int))=(g.length:Int):=by rw[Z1 (by omega)];omega
     simp only[q1,if_true,U,wm,w2];rw[e,J,ej,I];simp
    obtain⟨p,j,o,C,r1,r2,T,R,P⟩:=ih g i (A++v) B (by omega) (by omega) (by omega) (by simp;omega) (by simp;omega);refine⟨p,j,o,C,by rw[Ak st];exact r1,r2,T,by rw[R];simp,by rw[P];simp;omega⟩
   ·obtain⟨v1,v2,rfl,I⟩:∃ v1 v2,v=v1++v2∧v2.length=u.length:=⟨v.take (v.length-u.length),v.drop (v.length-u.length),(b9 _ _).symm,by simp;omega⟩;have ae:(v1++v2).length=v1.length+v2.length:=cl;have e:A++(u++(v1++v2++B))=A++(u++(v1++(v2++B))):=by simp
    have J:=ma A u v1 v2 B I.symm (by rw[← e];exact hl) (a:=(A.length:Int)) (b:=((A.length+u.length+v1.length:Nat):Int)) (n:=(u.length:Int)) rfl rfl rfl
    have st:MI (m:Int) (A++(u++(v1++v2++B)),(u.length:Int),((v1++v2).length:Int))=bI (.inl (A++(v2++(v1++(u++B))),(v2.length:Int),(v1.length:Int))):=by
     unfold MI;have U:b8 (((v1++v2).length:Int)<(u.length:Int))=false:=decide_eq_false (by omega);have w2:bR.wrap (((v1++v2).length:Int)-(u.length:Int))=(v1.length:Int):=by rw[Z1 (by omega)];omega
     have w3:bR.wrap (bR.wrap ((m:Int)+((v1++v2).length:Int))-(u.length:Int))=((A.length+u.length+v1.length:Nat):Int):=by
      rw[Z1 (n:=(m:Int)+((v1++v2).length:Int)) (by omega),Z1 (by omega)];omega
     simp only[q1,if_true,U,wm,w2,w3,hZ,if_false];rw[e,J,ej,I]
    obtain⟨p,j,o,C,r1,r2,T,R,P⟩:=ih v2 v1 A (u++B) (by omega) (by omega) (by omega) (by omega) (by simp;omega);refine⟨p,j,o,C,by rw[Ak st];exact r1,r2,T,by rw[R];simp,by rw[P];simp;omega⟩
theorem AFp(A u v B:List α)(U:0<u.length)(T:0<v.length)(i:(A++(u++(v++B))).length<=1099511627776):
  gI (A++(u++(v++B))) (A.length:Int) ((A.length+u.length:Nat):Int) ((A.length+u.length+v.length:Nat):Int)=bI (A++(v++(u++B))):=by
 have aa:A.length+(u.length+(v.length+B.length))<=1099511627776:=by simpa using i
 obtain⟨j,g,J,B',r1,r2,p,R,P⟩:=vU (A.length+u.length) (by omega) _ u v A B (df _) U T rfl i;unfold gI;have I:bR.wrap (((A.length+u.length:Nat):Int)-(A.length:Int))=(u.length:Int):=by rw[Z1 (by omega)];omega
 have w2:bR.wrap (((A.length+u.length+v.length:Nat):Int)-((A.length+u.length:Nat):Int))=(v.length:Int):=by rw[Z1 (by omega)];omega
 rw[I,w2,r1,ej];dsimp only;have C:bR.wrap (((A.length+u.length:Nat):Int)-(g.length:Int))=(j.length:Int):=by rw[p,Z1 (by omega)];omega
 have o:=ma j g [] J B' r2 (by simp only[e8];rw[P];exact i) (a:=(j.length:Int)) (b:=((A.length+u.length:Nat):Int)) (n:=(g.length:Int)) rfl (by rw[p];simp) rfl;simp only[e8] at o;rw[C,o,ej,R];have e:((A++(v++(u++B))).length==(A++(u++(v++B))).length)=ca:=by simp;omega
 rw[e,AB]
end
section
variable {α:Type}[Inhabited α]{cmp:α->α->Option Int}{lt:α->α->Bool}
theorem Zt{step:Int×Int->Option ((Int×Int)⊕Int)}(P:Nat->Bool)(lo hi:Nat)(g:∀ c d,lo<=c->c<=d->d<hi->P c=ca->P d=ca)
  (hs:∀ i j:Nat,lo<=i->i<j->j<=hi->step ((i:Int),(j:Int))=bI (.inl (if P ((i+j)/2)=ca then ((i:Int),(((i+j)/2:Nat):Int)) else ((((i+j)/2+1:Nat):Int),(j:Int)))))
  (he:∀ i:Nat,step ((i:Int),(i:Int))=bI (.inr (i:Int))) (T:lo<=hi) :
  ∃ s:Nat,lo<=s∧s<=hi∧AE step ((lo:Int),(hi:Int))=bI (s:Int)∧(∀ c,lo<=c->c<s->P c=dw)∧(∀ c,s<=c->c<hi->P c=ca):=by
 have key:∀ (k i j:Nat),j-i<=k->lo<=i->i<=j->j<=hi->(∀ c,lo<=c->c<i->P c=dw)->(∀ c,j<=c->c<hi->P c=ca) ->
   ∃ s:Nat,lo<=s∧s<=hi∧AE step ((i:Int),(j:Int))=bI (s:Int)∧(∀ c,lo<=c->c<s->P c=dw)∧(∀ c,s<=c->c<hi->P c=ca):=by
  intro k
  induction k with
  | zero=>
   intro i j h1 h2 h3 I R J;obtain rfl:i=j:=by omega
   exact⟨i,h2,I,Ae (he i),R,J⟩
  | succ k U=>
   intro i j h1 h2 h3 I R J
   by_cases q:i=j
   ·subst q;exact⟨i,h2,I,Ae (he i),R,J⟩
   ·have st:=hs i j h2 (by omega) I
    by_cases p:P ((i+j)/2)=ca
    ·rw[if_pos p] at st;rw[Ak st];exact U i ((i+j)/2) (by omega) h2 (by omega) (by omega) R fun c o C=>g _ c (by omega) o C p
    ·rw[if_neg p] at st;rw[Ak st];refine U ((i+j)/2+1) j (by omega) (by omega) (by omega) I (fun c o C=>?_) J;cases hp:P c with
     | false=>rfl
     | true=>exact absurd (g c _ o (by omega) (by omega) hp) p
 exact key (hi-lo) lo hi (df _) (df _) T (df _) (fun c _ h=>by omega) (fun c h1 h2=>by omega)
theorem wrap_u64{n:Int}(i:0<=n)(g:n<18446744073709551616):u64.wrap n=n:=by
 unfold IntKind.wrap IntKind.bits;simp[IntKind.signed];omega
theorem Uj{i j:Nat}(h:i+j<=4611686018427387904):hF ((i:Int)+(j:Int))=(((i+j)/2:Nat):Int):=by
 unfold hF
 rw[Z1 (n:=(i:Int)+(j:Int)) (by omega),wrap_u64 (by omega) (by omega)]
 have:((i:Int)+(j:Int)).fdiv (2^(min 1 64))=(((i+j)/2:Nat):Int):=by
  rw[show (2:Int)^(min 1 64)=2 by decide,Int.fdiv_eq_ediv_of_nonneg _ (by omega)];omega
 rw[this,Z1 (by omega)]
theorem qe(g u r:List α){t:Nat}(h:t<u.length):(g++(u++r)).getD (g.length+t) a'=u.getD t a':=by
 rw[gdE,hf (by omega),show g.length+t-g.length=t by omega,List.getElem?_append_left h,gdE]
theorem Qm(O:jR lt){l:List α}(h:Mq lt l){i j:Nat}(g:i<=j)(o:j<l.length):lt (l.getD j a') (l.getD i a')=dw:=by
 rcases Nat.eq_or_lt_of_le g with e|e
 ·subst e;exact UU O _
 ·have:=f'.1 h i j (by omega) o e;rw[Cm o,Cm (show i<l.length by omega)];exact this
theorem pm(R:List α)(i:Nat)(hi:i<=1099511627776)(x:α):∀ (v pre:List α),i=pre.length+v.length+1->AE (MH (α:=α) (i:Int)) (pre++x::(v++R),(pre.length:Int))=bI (pre++(v++x::R))
 | [],pre,h=>Ae (by
   have w:bR.wrap ((i:Int)-1)=(pre.length:Int):=by rw[Z1 (by omega)];simp at h;omega
   unfold MH;dsimp only;rw[w,if_neg (by simp)];rfl)
 | y::v,pre,h=>by
  have P:i=pre.length+(v.length+1)+1:=by simpa using h
  have w:bR.wrap ((i:Int)-1)=((pre.length+(v.length+1):Nat):Int):=by rw[Z1 (by omega)];omega
  have g:bR.wrap ((pre.length:Int)+1)=((pre.length+1:Nat):Int):=Aa (by omega);have I:b8 ((pre.length:Int)<((pre.length+(v.length+1):Nat):Int))=true:=decide_eq_true (by omega);have J:(pre++x::(y::v++R)).length=pre.length+(v.length+R.length+2):=by simp;try omega
  have p:AU ((pre.length+1:Nat):Int) (pre++x::(y::v++R)).length=true:=Z2 (by omega);have o:AU (pre.length:Int) (pre++x::(y::v++R)).length=true:=Z2 (by omega);have C:(pre++x::(y::v++R)).getD pre.length a'=x:=kw _ _ _;have g1:(pre++x::(y::v++R)).getD (pre.length+1) a'=y:=xN pre x y (v++R)
  have j:((pre++x::(y::v++R)).set pre.length y).set (pre.length+1) x=(pre++[y])++x::(v++R):=by
   have:=(mW pre x y (v++R)).2;rw[c7];exact this
  have st:MH (i:Int) (pre++x::(y::v++R),(pre.length:Int))=bI (.inl ((pre++[y])++x::(v++R),((pre.length+1:Nat):Int))):=by
   unfold MH;simp only[w,g,I,p,o,if_true,AB,gr,C,g1,j]
  have el:((pre.length+1:Nat):Int)=((pre++[y]).length:Int):=by simp
  rw[Ak st,el,pm R i hi x v (pre++[y]) (by simp;omega)];simp
theorem AAa(g:List α)(hp:g.length<=1099511627776)(y:α):∀ (n:Nat) (u R:List α),u.length=n->(g++(u++y::R)).length<=1099511627776 ->
  AE (MG (α:=α) (g.length:Int)) (g++(u++y::R),((g.length+u.length:Nat):Int))=bI (g++(y::(u++R))):=by
 intro n
 induction n with
 | zero=>
  intro u R i j;obtain rfl:=b'.1 i;refine Ae ?_;unfold MG;dsimp only;rw[if_neg (by simp)];rfl
 | succ n T=>
  intro u R i j;obtain⟨t,x,rfl⟩:∃ t x,u=t++[x]:=⟨u.dropLast,u.getLast (by intro e;rw[e] at i;simp at i),(h9 _).symm⟩;have U:t.length=n:=by simpa using i
  have e:g++(t++[x]++y::R)=(g++t)++x::y::R:=by simp
  have el:g.length+(t++[x]).length=(g++t).length+1:=by simp;omega
  have aa:(g++t).length+(R.length+2)<=1099511627776:=by rw[e] at j;simpa[hC] using j
  have p:((g++t)++x::y::R).length=(g++t).length+(R.length+2):=by simp;try omega
  rw[el,e];have I:bR.wrap ((((g++t).length+1:Nat):Int)-1)=((g++t).length:Int):=by rw[Z1 (by omega)];omega
  have e0:b8 ((g.length:Int)<(((g++t).length+1:Nat):Int))=true:=decide_eq_true (by simp;omega);have P:AU (((g++t).length+1:Nat):Int) ((g++t)++x::y::R).length=true:=Z2 (by omega);have J:AU ((g++t).length:Int) ((g++t)++x::y::R).length=true:=Z2 (by omega)
  have st:MG (g.length:Int) ((g++t)++x::y::R,(((g++t).length+1:Nat):Int))=bI (.inl ((g++t)++y::x::R,((g++t).length:Int))):=by
   unfold MG;simp only[I,e0,P,J,if_true,AB,gr,kw,xN];rw[(mW (g++t) x y R).1]
  rw[Ak st];have C:(g++t)++y::x::R=g++(t++y::(x::R)):=by simp
  have o:((g++t).length:Int)=((g.length+t.length:Nat):Int):=by simp
  rw[C,o,T t (x::R) U (by rw[← C];rw[e] at j;simpa using j)];simp
end
section
variable {α:Type}[Inhabited α]{cmp:α->α->Option Int}{lt:α->α->Bool}
theorem ux(hc:PX cmp lt)(O:jR lt)(k:Nat)(g:List α)(x:α)(v o:List α)(P:Mq lt v)(hl:(g++(x::(v++o))).length<=1099511627776):
  ∃ w,Da cmp (k+1) (g++(x::(v++o))) (g.length:Int) ((g.length+1:Nat):Int) ((g.length+1+v.length:Nat):Int)=bI (g++(w++o))∧Mq lt w∧JD lt (x::v) w:=by
 have a1:g.length+(v.length+o.length+1)<=1099511627776:=by simpa[hC] using hl
 have ab:(g++(x::(v++o))).length=g.length+(v.length+o.length+1):=by simp
 have e:g++(x::(v++o))=(g++[x])++(v++o):=by simp
 have hD:∀ h,g.length+1<=h->h<g.length+1+v.length->(g++(x::(v++o))).getD h a'=v.getD (h-(g.length+1)) default:=fun h h1 h2=>by
  have:=qe (g++[x]) v o (t:=h-(g.length+1)) (by omega);rw[← e] at this;rw[← this];congr 1;simp;omega
 obtain⟨s,s1,s2,s3,s4,s5⟩:=Zt (step:=Pw cmp (g++(x::(v++o))) (g.length:Int)) (fun h=>!(lt (v.getD (h-(g.length+1)) a') x)) (g.length+1) (g.length+1+v.length)
  (fun c d h1 h2 h3 hp=>by
   simp only[ef] at hp ⊢;exact O.trans _ _ _ hp (Qm O P (i:=c-(g.length+1)) (j:=d-(g.length+1)) (by omega) (by omega)))
  (fun i j h1 h2 h3=>by
   have hh:=Uj (i:=i) (j:=j) (by omega);obtain⟨q,hq,R⟩:=hc (v.getD ((i+j)/2-(g.length+1)) a') x;have e0:b8 ((i:Int)<(j:Int))=true:=decide_eq_true (by omega);have o1:AU (((i+j)/2:Nat):Int) (g++(x::(v++o))).length=true:=Z2 (by omega);have o2:AU (g.length:Int) (g++(x::(v++o))).length=true:=Z2 (by omega);unfold Pw;simp only[e0,if_true,hh,o1,o2,AB,Tu (show (0:Int)<=1 by omega),gr,hD _ (show g.length+1<=(i+j)/2 by omega) (by omega),kw,hq,ej,R,Aa (show (i+j)/2<9223372036854775807 by omega)];cases lt (v.getD ((i+j)/2-(g.length+1)) a') x<;>rfl)
  (fun i=>by unfold Pw;dsimp only;rw[if_neg (by simp)]) (by omega)
 obtain⟨v1,v2,p,Xr⟩:∃ v1 v2,v=v1++v2∧v1.length=s-(g.length+1):=⟨v.take (s-(g.length+1)),v.drop (s-(g.length+1)),(b9 _ _).symm,by simp;omega⟩;have ay:v.length=v1.length+v2.length:=by rw[p];simp
 have f1:∀ y∈v1,lt y x=true:=fun y C=>by
  obtain⟨i,hi,rfl⟩:=bX C;have:=s4 (g.length+1+i) (by omega) (by omega);simp only[Bool.not_eq_false'] at this;rw[show g.length+1+i-(g.length+1)=i by omega,Cm (by omega)] at this;have U:v[i]'(by omega)=v1[i]:=by simp only[p];rw[hB hi]
  rwa [U] at this
 have f2:∀ y∈v2,lt y x=false:=fun y C=>by
  obtain⟨i,hi,rfl⟩:=bX C;have:=s5 (s+i) (by omega) (by omega);simp only[ef] at this;rw[Cm (by omega)] at this
  have U:v[s+i-(g.length+1)]'(by omega)=v2[i]:=by
   simp only[p];rw[hz (by omega)]
   congr 1;omega
  rwa [U] at this
 refine⟨v1++x::v2,?_,?_,?_⟩
 ·have lp:=pm (v2++o) s (by omega) x v1 g (by omega);have e3:g++x::(v1++(v2++o))=g++(x::(v++o)):=by rw[p];simp
  rw[e3] at lp;have w1:bR.wrap (((g.length+1:Nat):Int)-(g.length:Int))=1:=by rw[Z1 (by omega)];omega
  unfold Da;rw[w1,if_pos (by decide),s3,ej,lp,ej];have e4:((g++(v1++x::(v2++o))).length==(g++(x::(v++o))).length)=ca:=by simp;omega
  rw[e4,AB];simp
 ·rw[p] at P;have I:=ct.1 P;refine Rd I.1 (cf.2 ⟨fun y C=>f2 y C,I.2.1⟩) fun a J b T=>?_
  rcases cL.1 T with rfl|T
  ·exact O.asym _ _ (f1 a J)
  ·exact I.2.2 a J b T
 ·have:=(JD.swap O (u:=[x]) (v:=v1) (fun a J y C=>by rw[eL.1 J];exact f1 y C)).app (JD.refl v2);rw[p];simpa using this
theorem sE(hc:PX cmp lt)(O:jR lt)(k:Nat)(g u:List α)(y:α)(o:List α)(hu:Mq lt u)(a2:u.length≠1)(hl:(g++(u++(y::o))).length<=1099511627776):
  ∃ w,Da cmp (k+1) (g++(u++(y::o))) (g.length:Int) ((g.length+u.length:Nat):Int) ((g.length+u.length+1:Nat):Int)=bI (g++(w++o))∧Mq lt w∧JD lt (u++[y]) w:=by
 have R:(g++(u++(y::o))).length=g.length+(u.length+(o.length+1)):=by simp
 have a5:g.length+(u.length+(o.length+1))<=1099511627776:=by rw[← R];exact hl
 have hD:∀ h,g.length<=h->h<g.length+u.length->(g++(u++(y::o))).getD h a'=u.getD (h-g.length) default:=fun h h1 h2=>by
  have:=qe g u (y::o) (t:=h-g.length) (by omega);rw[← this];congr 1;omega
 have hY:(g++(u++(y::o))).getD (g.length+u.length) a'=y:=by
  have:=kw (g++u) y o;simpa using this
 obtain⟨s,s1,s2,s3,s4,s5⟩:=Zt (step:=Pv cmp (g++(u++(y::o))) ((g.length+u.length:Nat):Int)) (fun h=>lt y (u.getD (h-g.length) a')) g.length (g.length+u.length)
  (fun c d h1 h2 h3 hp=>by
   cases hq:lt y (u.getD (d-g.length) a') with
   | true=>rfl
   | false=>exact absurd (O.trans _ _ _ (Qm O hu (i:=c-g.length) (j:=d-g.length) (by omega) (by omega)) hq) (by rw[hp];simp))
  (fun i j h1 h2 h3=>by
   have hh:=Uj (i:=i) (j:=j) (by omega);obtain⟨q,hq,ac⟩:=hc y (u.getD ((i+j)/2-g.length) a');have e0:b8 ((i:Int)<(j:Int))=true:=decide_eq_true (by omega);have o1:AU (((i+j)/2:Nat):Int) (g++(u++(y::o))).length=true:=Z2 (by omega);have o2:AU ((g.length+u.length:Nat):Int) (g++(u++(y::o))).length=true:=Z2 (by omega);unfold Pv;simp only[e0,if_true,hh,o1,o2,AB,Tu (show (0:Int)<=1 by omega),gr,hD _ (show g.length<=(i+j)/2 by omega) (by omega),hY,hq,ej,ac,Aa (show (i+j)/2<9223372036854775807 by omega)];cases lt y (u.getD ((i+j)/2-g.length) a')<;>rfl)
  (fun i=>by unfold Pv;dsimp only;rw[if_neg (by simp)]) (by omega)
 obtain⟨C,I,p,a3⟩:∃ C I,u=C++I∧C.length=s-g.length:=⟨u.take (s-g.length),u.drop (s-g.length),(b9 _ _).symm,by simp;omega⟩;have a1:u.length=C.length+I.length:=by rw[p];simp
 have f1:∀ x∈C,lt y x=false:=fun x P=>by
  obtain⟨i,hi,rfl⟩:=bX P;have:=s4 (g.length+i) (by omega) (by omega);rw[show g.length+i-g.length=i by omega,Cm (by omega)] at this;have e2:u[i]'(by omega)=C[i]:=by simp only[p];rw[hB hi]
  rwa [e2] at this
 have f2:∀ x∈I,lt y x=true:=fun x P=>by
  obtain⟨i,hi,rfl⟩:=bX P;have:=s5 (s+i) (by omega) (by omega);rw[Cm (by omega)] at this
  have e2:u[s+i-g.length]'(by omega)=I[i]:=by
   simp only[p];rw[hz (by omega)]
   congr 1;omega
  rwa [e2] at this
 refine⟨C++y::I,?_,?_,?_⟩
 ·have lp:=AAa (g++C) (by simp;omega) y I.length I o rfl (by simp;omega);have e3:(g++C)++(I++y::o)=g++(u++(y::o)):=by rw[p];simp
  have e4:((g++C).length:Int)=(s:Int):=by simp;omega
  have e5:(g++C).length+I.length=g.length+u.length:=by simp;omega
  rw[e3,e4,e5] at lp;have w1:bR.wrap (((g.length+u.length:Nat):Int)-(g.length:Int))=(u.length:Int):=by rw[Z1 (by omega)];omega
  have w2:bR.wrap (((g.length+u.length+1:Nat):Int)-((g.length+u.length:Nat):Int))=1:=by rw[Z1 (by omega)];omega
  unfold Da;rw[w1,w2,if_neg (by simp;omega),if_pos (by decide),s3,ej,lp,ej];have e6:(((g++C)++(y::(I++o))).length==(g++(u++(y::o))).length)=ca:=by simp;omega
  rw[e6,AB];simp
 ·rw[p] at hu;have J:=ct.1 hu;refine Rd J.1 (cf.2 ⟨fun x P=>O.asym _ _ (f2 x P),J.2.1⟩) fun a U b T=>?_
  rcases cL.1 T with rfl|T
  ·exact f1 a U
  ·exact J.2.2 a U b T
 ·have:=(JD.refl (lt:=lt) C).app (JD.swap O (u:=I) (v:=[y]) (fun a U b T=>by rw[eL.1 T];exact f2 a U));rw[p];simpa using this
end
section
variable {α:Type}[Inhabited α]{cmp:α->α->Option Int}{lt:α->α->Bool}
theorem PL{l:List α}{n i:Nat}(h:i<n)(d:α):(l.take n).getD i d=l.getD i d:=by
 rw[gdE,gdE,List.getElem?_take,if_pos h]
theorem eP(l:List α)(n i:Nat)(d:α):(l.drop n).getD i d=l.getD (n+i) d:=by
 rw[gdE,gdE,List.getElem?_drop]
theorem AGk(O:jR lt){u v:List α}(U:Mq lt u)(T:Mq lt v){lo hi t K:Nat}(P:Nat->Bool)(hP:∀ c,lo<=c->c<hi->P c=lt (v.getD (K-1-c) a') (u.getD c a'))
  (h1:lo<=t) (h2:t<=hi) (ao:hi<=u.length) (hK:∀ c,lo<=c->c<hi->c+1<=K∧K-1-c<v.length) (ae:t<=K)
  (J:lo=0∨v.length<=K-lo) (R:hi=u.length∨K<=hi) (s4:∀ c,lo<=c->c<t->P c=dw) (s5:∀ c,t<=c->c<hi->P c=ca) :
  (∀ x∈u.drop t,∀ y∈v.take (K-t),lt y x=ca)∧(∀ x∈u.take t,∀ y∈v.drop (K-t),lt y x=dw):=by
 constructor
 ·intro x I y C;obtain⟨i,o,rfl⟩:=bX I;obtain⟨j,g,rfl⟩:=bX C;rw[← Cm o a',← Cm g a'];simp only[ic,eu] at o g;rw[eP,PL (by omega)];rcases gj t hi with q|q
  ·have p:=s5 t (df _) q;rw[hP t h1 q] at p;obtain⟨k1,k2⟩:=hK t h1 q;cases hq:lt (v.getD j a') (u.getD (t+i) a') with
   | true=>rfl
   | false=>
    have a:=Qm O U (i:=t) (j:=t+i) (by omega) (by omega);have b:=Qm O T (i:=j) (j:=K-1-t) (by omega) k2;have:=O.trans _ _ _ (O.trans _ _ _ a hq) b;rw[this] at p;cases p
  ·obtain rfl:t=hi:=by omega
   rcases R with e|e
   ·omega
   ·omega
 ·intro x I y C;obtain⟨i,o,rfl⟩:=bX I;obtain⟨j,g,rfl⟩:=bX C;rw[← Cm o a',← Cm g a'];simp only[ic,eu] at o g;rw[eP,PL (by omega)];rcases gj lo t with q|q
  ·have p:=s4 (t-1) (by omega) (by omega);rw[hP (t-1) (by omega) (by omega)] at p;rw[show K-1-(t-1)=K-t by omega] at p;have a:=Qm O U (i:=i) (j:=t-1) (by omega) (by omega);have b:=Qm O T (i:=K-t) (j:=K-t+j) (by omega) (by omega);exact O.trans _ _ _ (O.trans _ _ _ a p) b
  ·obtain rfl:t=lo:=by omega
   rcases J with e|e
   ·omega
   ·omega
theorem Ol{l:List α}(h:Mq lt l)(n:Nat):Mq lt (l.take n):=fI (List.take_sublist n l) h
theorem Om{l:List α}(h:Mq lt l)(n:Nat):Mq lt (l.drop n):=fI (hX n l) h
theorem AGQ(O:jR lt){u v:List α}{t r:Nat}(T:Mq lt u)(R:Mq lt v)(o:∀ x∈u.drop t,∀ y∈v.take r,lt y x=ca)(h2:∀ x∈u.take t,∀ y∈v.drop r,lt y x=dw)
  {g w2:List α} (a1:Mq lt g) (I:JD lt (u.take t++v.take r) g) (a2:Mq lt w2) (C:JD lt (u.drop t++v.drop r) w2):Mq lt (g++w2)∧JD lt (u++v) (g++w2):=by
 constructor
 ·refine Rd a1 a2 fun x P y J=>?_
  have j:=ct.1 (show Mq lt (u.take t++u.drop t) by rw[b9];exact T);have i:=ct.1 (show Mq lt (v.take r++v.drop r) by rw[b9];exact R);rcases ew.1 (I.mem.1 P) with p|p<;>rcases ew.1 (C.mem.1 J) with q|q
  ·exact j.2.2 x p y q
  ·exact h2 x p y q
  ·exact O.asym _ _ (o y q x p)
  ·exact i.2.2 x p y q
 ·have e:JD lt ((u.take t++(u.drop t++v.take r))++v.drop r) ((u.take t++(v.take r++u.drop t))++v.drop r):=((JD.refl _).app (JD.swap O o)).app (JD.refl _)
  have e1:(u.take t++(u.drop t++v.take r))++v.drop r=u++v:=by
   rw[← c7,b9,c7,b9]
  have U:(u.take t++(v.take r++u.drop t))++v.drop r=(u.take t++v.take r)++(u.drop t++v.drop r):=by simp
  rw[e1,U] at e;exact e.trans (I.app C)
end
def gTL{α:Type}[Inhabited α](cmp:α->α->Option Int)(J:Nat)(data:List α)(a m b s:Int):Option (List α) :=if ((b8 (s<m))&&(b8 (m<(bR.wrap ((bR.wrap ((hF (a+b))+m))-s))))) then (gI data s m (bR.wrap ((bR.wrap ((hF (a+b))+m))-s))).bind fun g=>if ((b8 (a<s))&&(b8 (s<(hF (a+b))))) then (Da cmp J g a s (hF (a+b))).bind fun j=>if ((b8 ((hF (a+b))<(bR.wrap ((bR.wrap ((hF (a+b))+m))-s))))&&(b8 ((bR.wrap ((bR.wrap ((hF (a+b))+m))-s))<b))) then (Da cmp J j (hF (a+b)) (bR.wrap ((bR.wrap ((hF (a+b))+m))-s)) b).bind fun I=>ck (I.length==data.length) <|some I else ck (j.length==data.length) <|some j else if ((b8 ((hF (a+b))<(bR.wrap ((bR.wrap ((hF (a+b))+m))-s))))&&(b8 ((bR.wrap ((bR.wrap ((hF (a+b))+m))-s))<b))) then (Da cmp J g (hF (a+b)) (bR.wrap ((bR.wrap ((hF (a+b))+m))-s)) b).bind fun C=>ck (C.length==data.length) <|some C else ck (g.length==data.length) <|some g else if ((b8 (a<s))&&(b8 (s<(hF (a+b))))) then (Da cmp J data a s (hF (a+b))).bind fun i=>if ((b8 ((hF (a+b))<(bR.wrap ((bR.wrap ((hF (a+b))+m))-s))))&&(b8 ((bR.wrap ((bR.wrap ((hF (a+b))+m))-s))<b))) then (Da cmp J i (hF (a+b)) (bR.wrap ((bR.wrap ((hF (a+b))+m))-s)) b).bind fun p=>ck (p.length==data.length) <|some p else ck (i.length==data.length) <|some i else if ((b8 ((hF (a+b))<(bR.wrap ((bR.wrap ((hF (a+b))+m))-s))))&&(b8 ((bR.wrap ((bR.wrap ((hF (a+b))+m))-s))<b))) then (Da cmp J data (hF (a+b)) (bR.wrap ((bR.wrap ((hF (a+b))+m))-s)) b).bind fun o=>ck (o.length==data.length) <|some o else bI data
theorem zk{α:Type}[Inhabited α](cmp:α->α->Option Int)(g:Nat)(data:List α)(a m b:Int)(i:(bR.wrap (m-a)==1)=dw)(h2:(bR.wrap (b-m)==1)=dw):
  Da cmp (g+1) data a m b=if b8 ((hF (a+b))<m)=ca then (AE (NB cmp data a m b (hF (a+b)) (bR.wrap ((hF (a+b))+m)) (bR.wrap ((bR.wrap ((hF (a+b))+m))-1))) ((bR.wrap ((bR.wrap ((hF (a+b))+m))-b)),(hF (a+b)))).bind (gTL cmp g data a m b) else (AE (Ru cmp data a m b (hF (a+b)) (bR.wrap ((hF (a+b))+m)) (bR.wrap ((bR.wrap ((hF (a+b))+m))-1))) (a,m)).bind (gTL cmp g data a m b):=by
 unfold Da;rw[i,h2,if_neg (by simp),if_neg (by simp),Tu (show (0:Int)<=1 by omega),AB];rfl
section
variable {α:Type}[Inhabited α]{cmp:α->α->Option Int}{lt:α->α->Bool}
theorem ze{k A U V K t:Nat}{D D1 D2 D3:List α}(hK:K=(U+V)/2)(hb:A+U+V<=1099511627776)(P:t<=K)(J:t<=U)
  (p:t<U∧t<K->gI D ((A+t:Nat):Int) ((A+U:Nat):Int) ((A+U+(K-t):Nat):Int)=bI D1) (I:¬(t<U∧t<K)->D=D1)
  (o:0<t∧t<K->Da cmp k D1 (A:Int) ((A+t:Nat):Int) ((A+K:Nat):Int)=bI D2) (C:¬(0<t∧t<K)->D1=D2)
  (j:t<U∧K-t<V->Da cmp k D2 ((A+K:Nat):Int) ((A+U+(K-t):Nat):Int) ((A+U+V:Nat):Int)=bI D3) (i:¬(t<U∧K-t<V)->D2=D3)
  (T:D3.length=D.length):gTL cmp k D (A:Int) ((A+U:Nat):Int) ((A+U+V:Nat):Int) ((A+t:Nat):Int)=bI D3:=by
 have hm:hF ((A:Int)+((A+U+V:Nat):Int))=((A+K:Nat):Int):=by
  rw[Uj (by omega)];congr 1;omega
 have R:bR.wrap (((A+K:Nat):Int)+((A+U:Nat):Int))=((A+K+(A+U):Nat):Int):=by rw[Z1 (by omega)];omega
 have he:bR.wrap (((A+K+(A+U):Nat):Int)-((A+t:Nat):Int))=((A+U+(K-t):Nat):Int):=by rw[Z1 (by omega)];omega
 have g:(D3.length==D.length)=ca:=by rw[T];simp
 have b1:b8 (((A+t:Nat):Int)<((A+U:Nat):Int))=b8 (t<U):=by rw[cc];simp only[dtE];omega
 have b2:b8 (((A+U:Nat):Int)<((A+U+(K-t):Nat):Int))=b8 (t<K):=by rw[cc];simp only[dtE];omega
 have b3:b8 ((A:Int)<((A+t:Nat):Int))=b8 (0<t):=by rw[cc];simp only[dtE];omega
 have b4:b8 (((A+t:Nat):Int)<((A+K:Nat):Int))=b8 (t<K):=by rw[cc];simp only[dtE];omega
 have b5:b8 (((A+K:Nat):Int)<((A+U+(K-t):Nat):Int))=b8 (t<U):=by rw[cc];simp only[dtE];omega
 have b6:b8 (((A+U+(K-t):Nat):Int)<((A+U+V:Nat):Int))=b8 (K-t<V):=by rw[cc];simp only[dtE];omega
 unfold gTL;simp only[hm,R,he,b1,b2,b3,b4,b5,b6];have g1:(b8 (t<U)&&b8 (t<K))=b8 (t<U∧t<K):=by rw[cc];simp
 have g2:(b8 (0<t)&&b8 (t<K))=b8 (0<t∧t<K):=by rw[cc];simp
 have g3:(b8 (t<U)&&b8 (K-t<V))=b8 (t<U∧K-t<V):=by rw[cc];simp
 simp only[g1,g2,g3]
 by_cases c1:t<U∧t<K
 ·have p:=p c1
  by_cases c2:0<t∧t<K
  ·have o:=o c2
   by_cases c3:t<U∧K-t<V
   ·have j:=j c3;simp only[c1,c2,c3,and_self,decide_true,if_true,p,o,j,ej,g,AB]
   ·have i:=i c3;subst i;simp only[decide_eq_true c1,decide_eq_true c2,decide_eq_false c3,if_true,hZ,if_false,p,o,ej,g,AB]
  ·have C:=C c2;subst C
   by_cases c3:t<U∧K-t<V
   ·have j:=j c3;simp only[decide_eq_true c1,decide_eq_false c2,decide_eq_true c3,if_true,hZ,if_false,p,j,ej,g,AB]
   ·have i:=i c3;subst i;simp only[decide_eq_true c1,decide_eq_false c2,decide_eq_false c3,if_true,hZ,if_false,p,ej,g,AB]
 ·have I:=I c1;subst I
  by_cases c2:0<t∧t<K
  ·have o:=o c2
   by_cases c3:t<U∧K-t<V
   ·have j:=j c3;simp only[decide_eq_false c1,decide_eq_true c2,decide_eq_true c3,if_true,hZ,if_false,o,j,ej,g,AB]
   ·have i:=i c3;subst i;simp only[decide_eq_false c1,decide_eq_true c2,decide_eq_false c3,if_true,hZ,if_false,o,ej,g,AB]
  ·have C:=C c2;subst C
   by_cases c3:t<U∧K-t<V
   ·have j:=j c3;simp only[decide_eq_false c1,decide_eq_false c2,decide_eq_true c3,if_true,hZ,if_false,j,ej,g,AB]
   ·have i:=i c3;subst i;simp only[decide_eq_false c1,decide_eq_false c2,decide_eq_false c3,if_true,hZ,if_false]
theorem dN(hc:PX cmp lt)(O:jR lt)(g u v o:List α)(hu:Mq lt u)(hv:Mq lt v){K lo hi:Nat}(hl:(g++(u++(v++o))).length<=1099511627776)
  {step:Int×Int->Option ((Int×Int)⊕Int)} (p:∀ q:Int×Int,step q=NB cmp (g++(u++(v++o))) 0 0 0 0 0 ((g.length+K+(g.length+u.length)-1:Nat):Int) q)
  (h1:lo<=hi) (ao:hi<=u.length) (R:∀ c,lo<=c->c<hi->c+1<=K∧K-1-c<v.length) :
  ∃ t,lo<=t∧t<=hi∧AE step (((g.length+lo:Nat):Int),((g.length+hi:Nat):Int))=bI ((g.length+t:Nat):Int) ∧
   (∀ c,lo<=c->c<t->lt (v.getD (K-1-c) a') (u.getD c a')=dw)∧(∀ c,t<=c->c<hi->lt (v.getD (K-1-c) a') (u.getD c a')=ca):=by
 have P:(g++(u++(v++o))).length=g.length+(u.length+(v.length+o.length)):=by simp
 obtain⟨s,s1,s2,s3,s4,U⟩:=Zt (step:=step) (fun h=>lt (v.getD (K-1-(h-g.length)) a') (u.getD (h-g.length) a')) (g.length+lo) (g.length+hi)
  (fun c d h1 h2 h3 J=>by
   cases C:lt (v.getD (K-1-(d-g.length)) a') (u.getD (d-g.length) a') with
   | true=>rfl
   | false=>
    obtain⟨k1,k2⟩:=R (c-g.length) (by omega) (by omega);have a:=Qm O hu (i:=c-g.length) (j:=d-g.length) (by omega) (by omega);have b:=Qm O hv (i:=K-1-(d-g.length)) (j:=K-1-(c-g.length)) (by omega) k2;have:=O.trans _ _ _ (O.trans _ _ _ a C) b;rw[this] at J;cases J)
  (fun i j h2 h3 h4=>by
   have hh:=Uj (i:=i) (j:=j) (by omega);obtain⟨k1,k2⟩:=R ((i+j)/2-g.length) (by omega) (by omega);obtain⟨q,C,I⟩:=hc (v.getD (K-1-((i+j)/2-g.length)) a') (u.getD ((i+j)/2-g.length) a');have e0:b8 ((i:Int)<(j:Int))=true:=decide_eq_true (by omega);have T:bR.wrap (((g.length+K+(g.length+u.length)-1:Nat):Int)-(((i+j)/2:Nat):Int))=((g.length+(u.length+(K-1-((i+j)/2-g.length))):Nat):Int):=by rw[Z1 (by omega)];omega
   have o1:AU (((i+j)/2:Nat):Int) (g++(u++(v++o))).length=true:=Z2 (by omega);have o2:AU ((g.length+(u.length+(K-1-((i+j)/2-g.length))):Nat):Int) (g++(u++(v++o))).length=true:=Z2 (by omega)
   have gu:(g++(u++(v++o))).getD ((i+j)/2) a'=u.getD ((i+j)/2-g.length) a':=by
    have:=qe g u (v++o) (t:=(i+j)/2-g.length) (by omega);rw[← this];congr 1;omega
   have gv:(g++(u++(v++o))).getD (g.length+(u.length+(K-1-((i+j)/2-g.length)))) a'=v.getD (K-1-((i+j)/2-g.length)) a':=by
    have:=qe (g++u) v o (t:=K-1-((i+j)/2-g.length)) k2;rw[← this,c7];congr 1;simp;omega
   rw[p];unfold NB;simp only[e0,if_true,hh,T,o1,o2,AB,Tu (show (0:Int)<=1 by omega),gr,gu,gv,C,ej,I,Aa (show (i+j)/2<9223372036854775807 by omega)];cases lt (v.getD (K-1-((i+j)/2-g.length)) a') (u.getD ((i+j)/2-g.length) a')<;>rfl)
  (fun i=>by rw[p];unfold NB;dsimp only;rw[if_neg (by simp)]) (by omega)
 refine⟨s-g.length,by omega,by omega,?_,fun c a b=>?_,fun c a b=>?_⟩
 ·rw[s3];congr 1;omega
 ·have:=s4 (g.length+c) (by omega) (by omega);rw[show g.length+c-g.length=c by omega] at this;exact this
 ·have:=U (g.length+c) (by omega) (by omega);rw[show g.length+c-g.length=c by omega] at this;exact this
theorem mf{l:List α}(h:l.length<=1):Mq lt l:=by
 match l,h with
 | [],_=>exact ev
 | [x],_=>exact hE _ _
theorem uy(hc:PX cmp lt)(O:jR lt):∀ (k:Nat) (pre u v g:List α),0<u.length->0<v.length->u.length+v.length<=2^k->Mq lt u->Mq lt v->(pre++(u++(v++g))).length<=1099511627776 ->
  ∃ w,Da cmp k (pre++(u++(v++g))) (pre.length:Int) ((pre.length+u.length:Nat):Int) ((pre.length+u.length+v.length:Nat):Int)=bI (pre++(w++g))∧Mq lt w∧JD lt (u++v) w:=by
 intro k
 induction k with
 | zero=>intro pre u v g h1 h2 h3;simp at h3;omega
 | succ k ih=>
  intro pre u v g h1 h2 h3 o j P;have bb:(pre++(u++(v++g))).length=pre.length+(u.length+(v.length+g.length)):=by simp
  by_cases c1:u.length=1
  ·obtain⟨x,rfl⟩:∃ x,u=[x]:=hH.1 c1;exact ux hc O k pre x v g j P
  by_cases c2:v.length=1
  ·obtain⟨y,rfl⟩:∃ y,v=[y]:=hH.1 c2;exact sE hc O k pre u y g o c1 P
  have a0:2^(k+1)=2*2^k:=by rw[Nat.pow_succ];omega
  obtain⟨K,hK⟩:∃ K,K=(u.length+v.length)/2:=⟨_,rfl⟩
  have w1:(bR.wrap (((pre.length+u.length:Nat):Int)-(pre.length:Int))==1)=dw:=by
   rw[Z1 (by omega)];exact beq_eq_false_iff_ne.2 (by omega)
  have w2:(bR.wrap (((pre.length+u.length+v.length:Nat):Int)-((pre.length+u.length:Nat):Int))==1)=dw:=by
   rw[Z1 (by omega)];exact beq_eq_false_iff_ne.2 (by omega)
  have R:∀ lo hi t:Nat,lo<=t->t<=hi->hi<=u.length->(∀ c,lo<=c->c<hi->c+1<=K∧K-1-c<v.length)->t<=K->(lo=0∨v.length<=K-lo)->(hi=u.length∨K<=hi)->K-t<=v.length ->
    (∀ c,lo<=c->c<t->lt (v.getD (K-1-c) a') (u.getD c a')=dw)->(∀ c,t<=c->c<hi->lt (v.getD (K-1-c) a') (u.getD c a')=ca) ->
    ∃ w,gTL cmp k (pre++(u++(v++g))) (pre.length:Int) ((pre.length+u.length:Nat):Int) ((pre.length+u.length+v.length:Nat):Int) ((pre.length+t:Nat):Int)=bI (pre++(w++g))∧Mq lt w∧JD lt (u++v) w:=by
   intro lo hi t a1 a2 a3 a4 a5 a6 a7 a8 a9 ax;obtain⟨f1,f2⟩:=AGk O o j (fun c=>lt (v.getD (K-1-c) a') (u.getD c a')) (fun c _ _=>rfl) a1 a2 a3 a4 a5 a6 a7 a9 ax;have aj:(u.take t).length=t:=by simp;omega
   have I:(u.drop t).length=u.length-t:=by simp
   have C:(v.take (K-t)).length=K-t:=by simp;omega
   have ae:(v.drop (K-t)).length=v.length-(K-t):=by simp
   obtain⟨i,e1,b1,b2,b3⟩:∃ i,i.length=K∧(0<t∧t<K->Da cmp k (pre++(u.take t++(v.take (K-t)++(u.drop t++(v.drop (K-t)++g))))) (pre.length:Int) ((pre.length+t:Nat):Int) ((pre.length+K:Nat):Int)=bI (pre++(i++(u.drop t++(v.drop (K-t)++g))))) ∧
     Mq lt i∧(JD lt (u.take t++v.take (K-t)) i∧(¬(0<t∧t<K)->u.take t++v.take (K-t)=i)):=by
    by_cases q:0<t∧t<K
    ·obtain⟨w,k1,k2,J⟩:=ih pre (u.take t) (v.take (K-t)) (u.drop t++(v.drop (K-t)++g)) (by omega) (by omega) (by omega) (Ol o _) (Ol j _) (by simp;omega);rw[aj,C,show pre.length+t+(K-t)=pre.length+K by omega] at k1;exact⟨w,by rw[J.len];simp;omega,fun _=>k1,k2,J,fun c=>absurd q c⟩
    ·refine⟨u.take t++v.take (K-t),by simp;omega,fun c=>absurd c q,?_,JD.refl _,fun _=>rfl⟩;rcases gn t with z|z
     ·have:u.take t=[]:=b'.1 (by omega);rw[this];exact Ol j _
     ·have:v.take (K-t)=[]:=b'.1 (by omega);rw[this,e9];exact Ol o _
   obtain⟨b3,b4⟩:=b3;have ao:(pre++i).length=pre.length+K:=by simp;omega
   obtain⟨p,e2,d1,d2,d3,d4⟩:∃ p,p.length=u.length+v.length-K∧(t<u.length∧K-t<v.length->Da cmp k (pre++(i++(u.drop t++(v.drop (K-t)++g)))) ((pre.length+K:Nat):Int) ((pre.length+u.length+(K-t):Nat):Int) ((pre.length+u.length+v.length:Nat):Int)=bI (pre++(i++(p++g)))) ∧
     Mq lt p∧JD lt (u.drop t++v.drop (K-t)) p∧(¬(t<u.length∧K-t<v.length)->u.drop t++v.drop (K-t)=p):=by
    by_cases q:t<u.length∧K-t<v.length
    ·obtain⟨w,k1,k2,J⟩:=ih (pre++i) (u.drop t) (v.drop (K-t)) g (by omega) (by omega) (by omega) (Om o _) (Om j _) (by simp;omega);rw[ao,I,ae,show pre.length+K+(u.length-t)=pre.length+u.length+(K-t) by omega,show pre.length+u.length+(K-t)+(v.length-(K-t))=pre.length+u.length+v.length by omega] at k1;exact⟨w,by rw[J.len];simp;omega,fun _=>by simpa using k1,k2,J,fun c=>absurd q c⟩
    ·refine⟨u.drop t++v.drop (K-t),by simp;omega,fun c=>absurd c q,?_,JD.refl _,fun _=>rfl⟩;rcases gj t u.length with z|z
     ·have:v.drop (K-t)=[]:=b'.1 (by omega);rw[this,e9];exact Om o _
     ·have:u.drop t=[]:=b'.1 (by omega);rw[this];exact Om j _
   obtain⟨m1,m2⟩:=AGQ O o j f1 f2 b2 b3 d2 d3;refine⟨i++p,?_,m1,m2⟩
   have hD:pre++(u++(v++g))=(pre++u.take t)++(u.drop t++(v.take (K-t)++(v.drop (K-t)++g))):=by
    have:(pre++u.take t)++(u.drop t++(v.take (K-t)++(v.drop (K-t)++g)))=pre++((u.take t++u.drop t)++((v.take (K-t)++v.drop (K-t))++g)):=by simp only[c7]
    rw[this,b9,b9]
   have:=ze (cmp:=cmp) (k:=k) (A:=pre.length) (U:=u.length) (V:=v.length) (K:=K) (t:=t) (D:=pre++(u++(v++g))) (D1:=pre++(u.take t++(v.take (K-t)++(u.drop t++(v.drop (K-t)++g)))))
    (D2:=pre++(i++(u.drop t++(v.drop (K-t)++g)))) (D3:=pre++(i++(p++g))) hK (by omega) a5 (by omega)
    (fun q=>by
     have r:=AFp (pre++u.take t) (u.drop t) (v.take (K-t)) (v.drop (K-t)++g) (by omega) (by omega) (by rw[← hD];exact P);have l1:(pre++u.take t).length=pre.length+t:=by simp;omega
     rw[← hD,l1,I,C,show pre.length+t+(u.length-t)=pre.length+u.length by omega] at r;rw[r];simp)
    (fun q=>by
     rw[hD];rcases gj t u.length with z|z
     ·have:v.take (K-t)=[]:=b'.1 (by omega);rw[this];simp
     ·have:u.drop t=[]:=b'.1 (by omega);rw[this];simp)
    b1 (fun q=>by rw[← b4 q];simp) d1 (fun q=>by rw[← d4 q];simp) (by simp;omega)
   rw[this];simp
  rw[zk cmp k _ _ _ _ w1 w2]
  have hm:hF ((pre.length:Int)+((pre.length+u.length+v.length:Nat):Int))=((pre.length+K:Nat):Int):=by
   rw[Uj (by omega)];congr 1;omega
  have hn:bR.wrap (((pre.length+K:Nat):Int)+((pre.length+u.length:Nat):Int))=((pre.length+K+(pre.length+u.length):Nat):Int):=by rw[Z1 (by omega)];omega
  have hp:bR.wrap (((pre.length+K+(pre.length+u.length):Nat):Int)-1)=((pre.length+K+(pre.length+u.length)-1:Nat):Int):=by rw[Z1 (by omega)];omega
  simp only[hm,hn,hp]
  by_cases c3:K<u.length
  ·rw[if_pos (decide_eq_true (by omega))];have hs:bR.wrap (((pre.length+K+(pre.length+u.length):Nat):Int)-((pre.length+u.length+v.length:Nat):Int))=((pre.length+(K-v.length):Nat):Int):=by rw[Z1 (by omega)];omega
   rw[hs];obtain⟨t,t1,T,t3,t4,t5⟩:=dN hc O pre u v g o j (K:=K) (lo:=K-v.length) (hi:=K) P (step:=NB cmp (pre++(u++(v++g))) (pre.length:Int) ((pre.length+u.length:Nat):Int) ((pre.length+u.length+v.length:Nat):Int) ((pre.length+K:Nat):Int) ((pre.length+K+(pre.length+u.length):Nat):Int) ((pre.length+K+(pre.length+u.length)-1:Nat):Int)) (fun q=>rfl) (by omega) (by omega) (fun c x y=>by omega);rw[t3,ej];exact R (K-v.length) K t t1 T (by omega) (fun c x y=>by omega) T (.inr (by omega)) (.inr (df _)) (by omega) t4 t5
  ·rw[if_neg (by simp;omega)];obtain⟨t,t1,T,t3,t4,t5⟩:=dN hc O pre u v g o j (K:=K) (lo:=0) (hi:=u.length) P (step:=Ru cmp (pre++(u++(v++g))) (pre.length:Int) ((pre.length+u.length:Nat):Int) ((pre.length+u.length+v.length:Nat):Int) ((pre.length+K:Nat):Int) ((pre.length+K+(pre.length+u.length):Nat):Int) ((pre.length+K+(pre.length+u.length)-1:Nat):Int)) (fun q=>rfl) (by omega) (by omega) (fun c x y=>by omega);rw[Nat.add_zero] at t3;rw[t3,ej];exact R 0 u.length t t1 T (df _) (fun c x y=>by omega) (by omega) (.inl rfl) (.inl rfl) (by omega) t4 t5
end
section
variable {α:Type}[Inhabited α]{cmp:α->α->Option Int}{lt:α->α->Bool}
theorem kS{x:Nat}(h:x<=4611686018427387904):x<=2^64:=hJ h (by decide)
def SQ(lt:α->α->Bool)(n:Nat)(d:List α):Prop:=∀ k,Mq lt ((d.drop (k*n)).take n)
theorem NU{n:Nat}{d:List α}(h:Mq lt d):SQ lt n d:=fun k=>Ol (Om h _) _
theorem TC{n:Nat}{d:List α}(h:SQ lt n d):Mq lt (d.take n):=by simpa using h 0
theorem Tw{n:Nat}{d:List α}(h:SQ lt n d)(g:d.length<=n):Mq lt d:=by
 have:=TC h
 rwa [gg g] at this
theorem dP{n:Nat}{d:List α}(h:SQ lt n d)(q:Nat):SQ lt n (d.drop (q*n)):=fun k=>by
 rw[fA,← g'];exact h (q+k)
theorem Qs{n q:Nat}{a b:List α}(g:a.length=q*n)(i:SQ lt n a)(h2:SQ lt n b):SQ lt n (a++b):=fun k=>by
 rcases gj k q with c|c
 ·have:(k+1)*n<=q*n:=Nat.mul_le_mul_right _ c;rw[g',Nat.one_mul] at this;rw[List.drop_append_of_le_length (by omega),List.take_append_of_le_length (by simp;omega)];exact i k
 ·obtain⟨j,rfl⟩:∃ j,k=q+j:=⟨k-q,by omega⟩;rw[g',← g,← fA,List.drop_left];exact h2 j
theorem AAe(hc:PX cmp lt)(O:jR lt)(n:Nat)(hn:n<=1099511627776):∀ (N:Nat) (dn rest:List α) (q:Nat),rest.length<=N->dn.length=q*20->(dn++rest).length=n->SQ lt 20 dn ->
  ∃ (i g:List α) (C:Nat),AE (Lb cmp (n:Int) 20) (dn++rest,(dn.length:Int),((dn.length+20:Nat):Int))=bI (i++g,(i.length:Int))∧SQ lt 20 i∧i.length=C*20∧g.length<20∧JD lt (dn++rest) (i++g):=by
 intro N
 induction N with
 | zero=>
  intro dn rest q h1 h2 R p;refine⟨dn,rest,q,Ae ?_,p,h2,by omega,JD.refl _⟩;have:(dn++rest).length=dn.length+rest.length:=cl;unfold Lb;dsimp only;rw[if_neg (by simp;omega)]
 | succ N ih=>
  intro dn rest q h1 h2 R p;have P:(dn++rest).length=dn.length+rest.length:=cl
  by_cases c:20<=rest.length
  ·obtain⟨w,J,w2,I⟩:=ft hc O dn (rest.take 20) (rest.drop 20) (by rw[b9];omega);have o:w.length=20:=by rw[I.len];simp;omega
   have j:(rest.take 20).length=20:=by simp;omega
   rw[b9,j] at J
   have st:Lb cmp (n:Int) 20 (dn++rest,(dn.length:Int),((dn.length+20:Nat):Int))=bI (.inl ((dn++w)++rest.drop 20,((dn++w).length:Int),(((dn++w).length+20:Nat):Int))):=by
    have e0:b8 (((dn.length+20:Nat):Int)<=(n:Int))=true:=decide_eq_true (by omega);have T:bR.wrap (((dn.length+20:Nat):Int)+20)=(((dn++w).length+20:Nat):Int):=by rw[Z1 (by omega)];simp[o];try omega
    unfold Lb;simp only[e0,if_true,J,ej,T];have:((dn.length+20:Nat):Int)=((dn++w).length:Int):=by simp[o]
    rw[this,c7]
   rw[Ak st];obtain⟨i,g,C,k1,k2,k3,k4,U⟩:=ih (dn++w) (rest.drop 20) (q+1) (by simp;omega) (by simp[o,h2];omega) (by simp[o];simp at R;omega) (Qs h2 p (NU w2));refine⟨i,g,C,k1,k2,k3,k4,JD.trans ?_ U⟩;have:=((JD.refl (lt:=lt) dn).app I).app (JD.refl (rest.drop 20))
   rwa [c7 dn (rest.take 20),b9] at this
  ·refine⟨dn,rest,q,Ae ?_,p,h2,by omega,JD.refl _⟩;unfold Lb;dsimp only;rw[if_neg (by simp;omega)]
theorem AAb(hc:PX cmp lt)(O:jR lt)(n g:Nat)(hn:n<=1099511627776)(hb:1<=g)(a0:g<n):∀ (N:Nat) (dn rest:List α) (q:Nat),rest.length<=N->dn.length=q*(2*g)->(dn++rest).length=n->SQ lt (2*g) dn->SQ lt g rest ->
  ∃ (j i:List α) (I:Nat),AE (Kf cmp (n:Int) (g:Int)) (dn++rest,(dn.length:Int),((dn.length+2*g:Nat):Int))=bI (j++i,(j.length:Int))∧SQ lt (2*g) j∧j.length=I*(2*g)∧i.length<2*g∧SQ lt g i∧JD lt (dn++rest) (j++i):=by
 intro N
 induction N with
 | zero=>
  intro dn rest q h1 h2 h3 C o;refine⟨dn,rest,q,Ae ?_,C,h2,by omega,o,JD.refl _⟩;have:(dn++rest).length=dn.length+rest.length:=cl;unfold Kf;dsimp only;rw[if_neg (by simp;omega)]
 | succ N ih=>
  intro dn rest q h1 h2 h3 C o;have aa:(dn++rest).length=dn.length+rest.length:=cl
  by_cases c:2*g<=rest.length
  ·have J:rest=rest.take g++((rest.drop g).take g++rest.drop (2*g)):=by
    have:rest.drop (2*g)=(rest.drop g).drop g:=by rw[fA];congr 1;omega
    rw[this,b9,b9]
   have U:(rest.take g).length=g:=by simp;omega
   have T:((rest.drop g).take g).length=g:=by simp;omega
   obtain⟨w,R,w2,P⟩:=uy hc O 64 dn (rest.take g) ((rest.drop g).take g) (rest.drop (2*g)) (by omega) (by omega) (by rw[U,T];exact kS (by omega)) (TC o) (by simpa using o 1) (by rw[← J];omega);rw[← J,U,T] at R;have p:w.length=2*g:=by rw[P.len];simp;omega
   have st:Kf cmp (n:Int) (g:Int) (dn++rest,(dn.length:Int),((dn.length+2*g:Nat):Int))=bI (.inl ((dn++w)++rest.drop (2*g),((dn++w).length:Int),(((dn++w).length+2*g:Nat):Int))):=by
    have e0:b8 (((dn.length+2*g:Nat):Int)<=(n:Int))=true:=decide_eq_true (by omega);have w4:bR.wrap (((dn.length+2*g:Nat):Int)+bR.wrap (2*(g:Int)))=(((dn++w).length+2*g:Nat):Int):=by rw[Z1 (n:=2*(g:Int)) (by omega),Z1 (by omega)];simp[p];try omega
    have w5:bR.wrap ((dn.length:Int)+(g:Int))=((dn.length+g:Nat):Int):=by rw[Z1 (by omega)];simp
    have w6:kx cmp (dn++rest) (dn.length:Int) ((dn.length+g:Nat):Int) ((dn.length+2*g:Nat):Int)=bI (dn++(w++rest.drop (2*g))):=by
     unfold kx;rw[← R];congr 2;omega
    unfold Kf;simp only[e0,if_true,w5,w6,ej,w4];have:((dn.length+2*g:Nat):Int)=((dn++w).length:Int):=by simp[p]
    rw[this,c7]
   rw[Ak st];obtain⟨j,i,I,k1,k2,k3,k4,k5,k6⟩:=ih (dn++w) (rest.drop (2*g)) (q+1) (by simp;omega) (by rw[g'];simp[p,h2]) (by simp[p];simp at h3;omega) (Qs h2 C (NU w2)) (dP o 2);refine⟨j,i,I,k1,k2,k3,k4,k5,JD.trans ?_ k6⟩;have:=((JD.refl (lt:=lt) dn).app P).app (JD.refl (rest.drop (2*g)));rw[c7 dn,c7 (rest.take g),← J] at this;exact this
  ·refine⟨dn,rest,q,Ae ?_,C,h2,by omega,o,JD.refl _⟩;unfold Kf;dsimp only;rw[if_neg (by simp;omega)]
theorem AAc(hc:PX cmp lt)(O:jR lt)(n:Nat)(hn:n<=1099511627776):∀ (N:Nat) (d:List α) (g:Nat),n-g<=N->1<=g->g<=4398046511104->d.length=n->SQ lt g d ->
  ∃ d',AE (Jg cmp (n:Int)) (d,(g:Int))=bI d'∧Mq lt d'∧JD lt d d':=by
 intro N
 induction N with
 | zero=>
  intro d g h1 h2 P h3 C;refine⟨d,Ae ?_,Tw C (by omega),JD.refl _⟩;unfold Jg;dsimp only;rw[if_neg (by simp;omega)]
 | succ N ih=>
  intro d g h1 h2 P h3 C
  by_cases c:g<n
  ·obtain⟨dn,rest,q,k1,k2,T,k4,J,k6⟩:=AAb hc O n g hn h2 c d.length [] d 0 (df _) (by simp) (by simpa using h3) (NU ev) C;have i:JD lt d (dn++rest):=by simpa using k6
   have hl:dn.length+rest.length=n:=by have:=i.len;rw[cl] at this;omega
   have e0:b8 ((g:Int)<(n:Int))=true:=decide_eq_true (by omega);have wb:bR.wrap (2*(g:Int))=((2*g:Nat):Int):=by rw[Z1 (by omega)];omega
   have j:bR.wrap ((g:Int)*2)=((2*g:Nat):Int):=by rw[Z1 (by omega)];omega
   have R:bR.wrap ((dn.length:Int)+(g:Int))=((dn.length+g:Nat):Int):=by rw[Z1 (by omega)];simp
   have p:AE (Kf cmp (n:Int) (g:Int)) (d,0,((2*g:Nat):Int))=bI (dn++rest,(dn.length:Int)):=by
    have:=k1;simp only[e8,h8,hI] at this;exact this
   obtain⟨d2,s1,s2,s3,s4⟩:∃ d2,Jg cmp (n:Int) (d,(g:Int))=bI (.inl (d2,((2*g:Nat):Int)))∧SQ lt (2*g) d2∧JD lt d d2∧d2.length=n:=by
    by_cases m:dn.length+g<n
    ·have U:rest=rest.take g++(rest.drop g++[]):=by rw[e9,b9]
     have lu:(rest.take g).length=g:=by simp;omega
     have lv:(rest.drop g).length=rest.length-g:=by simp
     have hv:Mq lt (rest.drop g):=Tw (by simpa using dP J 1) (by simp;omega);obtain⟨w,I,w2,w3⟩:=uy hc O 64 dn (rest.take g) (rest.drop g) [] (by omega) (by omega) (kS (by omega)) (TC J) hv (by rw[← U];simp;omega);rw[← U,lu,lv] at I
     have w6:kx cmp (dn++rest) (dn.length:Int) ((dn.length+g:Nat):Int) (n:Int)=bI (dn++w):=by
      have e:dn.length+g+(rest.length-g)=n:=by omega
      rw[e,e9] at I;exact I
     have o:JD lt rest w:=by rwa [b9] at w3
     have lw:w.length=rest.length:=o.len;refine⟨dn++w,?_,Qs T k2 (NU w2),i.trans ((JD.refl _).app o),by simp;omega⟩;unfold Jg;simp only[e0,if_true,wb,p,ej,R];rw[if_pos (decide_eq_true (by omega)),w6,ej,j]
    ·refine⟨dn++rest,?_,Qs T k2 (NU (Tw J (by omega))),i,by simp;omega⟩;unfold Jg;simp only[e0,if_true,wb,p,ej,R];rw[if_neg (by simp;omega),j]
   rw[Ak s1];obtain⟨d',t1,t2,t3⟩:=ih d2 (2*g) (by omega) (by omega) (by omega) s4 s2;exact⟨d',t1,t2,s3.trans t3⟩
  ·refine⟨d,Ae ?_,Tw C (by omega),JD.refl _⟩;unfold Jg;dsimp only;rw[if_neg (by simp;omega)]
theorem zl(p:PX cmp lt)(O:jR lt){d:List α}(J:d.length<=1099511627776):∃ d',cN cmp d (d.length:Int)=bI d'∧Mq lt d'∧JD lt d d':=by
 obtain⟨dn,rest,q,k1,k2,U,k4,T⟩:=AAe p O d.length J d.length [] d 0 (df _) (by simp) (by simp) (NU ev);have g:JD lt d (dn++rest):=by simpa using T
 have o:dn.length+rest.length=d.length:=by have:=g.len;rw[cl] at this;omega
 have j:AE (Lb cmp (d.length:Int) 20) (d,0,20)=bI (dn++rest,(dn.length:Int)):=by
  have:=k1;simp only[e8,h8,hI] at this;exact this
 obtain⟨w,I,w2,C⟩:=ft p O dn rest [] (by simp;omega);rw[e9,e9,o] at I;have lw:w.length=rest.length:=C.len;obtain⟨d',R,P,t3⟩:=AAc p O d.length J d.length (dn++w) 20 (by omega) (by omega) (by omega) (by simp;omega) (Qs U k2 (NU w2));refine⟨d',?_,P,g.trans (((JD.refl _).app C).trans t3)⟩;unfold cN;rw[j,ej,I,ej];have i:AE (Jg cmp (d.length:Int)) (dn++w,20)=bI d':=R;rw[i,ej];have:(d'.length==d.length)=ca:=by have:=t3.len;simp at this ⊢;omega
 rw[this,AB]
end
theorem Io{σ ρ i I:Type}{step:σ->Option (σ⊕ρ)}{step':i->Option (i⊕I)}(r:σ->i)(j:ρ->I)
  (h:∀ s,step' (r s)=(step s).map (ga r j)) (s:σ):AE step' (r s)=(AE step s).map j:=by
 have one:∀ n s,Jr step' n (r s)=(Jr step n s).map j:=by
  intro n
  induction n with
  | zero=>intro s;rfl
  | succ n J=>
   intro s;simp only[Jr,h s];cases step s with
   | none=>rfl
   | some o=>
    cases o with
    | inl s'=>exact J s'
    | inr r=>rfl
 cases C:AE step s with
 | some y=>
  obtain⟨n,g⟩:=Ik C;exact Lr (n:=n) (by rw[one,g];rfl)
 | none=>
  cases p:AE step' (r s) with
  | none=>rfl
  | some y=>
   obtain⟨n,g⟩:=Ik p;rw[one] at g;cases hi:Jr step n s with
   | none=>rw[hi] at g;cases g
   | some z=>rw[Lr hi] at C;cases C
theorem QD{α β:Type}(c:Bool)(o:Option α)(g:α->β):(ck c o).map g=ck c (o.map g):=by cases c<;>rfl
theorem MD{α β:Type}(c:Prop)[Decidable c](a b:Option α)(g:α->β):(if c then a else b).map g=if c then a.map g else b.map g:=by split<;>rfl
theorem JV{α β γ:Type}(o:Option α)(k:α->Option β)(g:β->γ):(o.bind k).map g=o.bind fun x=>(k x).map g:=by cases o<;>rfl
theorem JP{α β γ:Type}(o:Option α)(h:α->β)(k:β->Option γ):(o.map h).bind k=o.bind fun x=>k (h x):=by cases o<;>rfl
section
variable {α β:Type}[Inhabited α][Inhabited β](f:β->α)
theorem MU(g:f a'=a')(l:List β)(i:Nat):(l.map f).getD i a'=f (l.getD i a'):=by
 rw[gdE,hW,gdE];cases l[i]? with
 | none=>exact g.symm
 | some x=>rfl
theorem Xh(l:List β)(i:Nat)(x:β):(l.map f).set i (f x)=(l.set i x).map f:=List.map_set.symm
def r1(f:β->α):List β×Int->List α×Int:=fun s=>(s.1.map f,s.2)
def r2(f:β->α):List β×Int×Int->List α×Int×Int:=fun s=>(s.1.map f,s.2)
theorem AGK(g:f a'=a')(cmp:α->α->Option Int)(a b i:Int)(s:List β×Int):MJ cmp a b i (r1 f s)=(MJ (fun x y=>cmp (f x) (f y)) a b i s).map (ga (r1 f) (cA f)):=by
 obtain⟨d,j⟩:=s;simp only[MJ,r1,bN,MU f g,Xh,QD,MD,bS,et,en];try rfl
theorem AGL(g:f a'=a')(cmp:α->α->Option Int)(a b:Int)(s:List β×Int):MK cmp a b (r1 f s)=(MK (fun x y=>cmp (f x) (f y)) a b s).map (ga (r1 f) (cA f)):=by
 obtain⟨d,i⟩:=s;have:=Io (r1 f) (cA f) (AGK f g cmp a b i) (d,i);simp only[r1] at this;simp only[MK,r1,this,JP,JV,MD,bS,et,en];try rfl
theorem ACU(g:f a'=a')(cmp:α->α->Option Int)(d:List β)(a b:Int):lA cmp (d.map f) a b=(lA (fun x y=>cmp (f x) (f y)) d a b).map (cA f):=by
 have:=Io (r1 f) (cA f) (AGL f g cmp a b) (d,bR.wrap (a+1));simp only[r1] at this;simp only[lA,this,JP,JV,QD,bS,bN];try rfl
theorem AGF(g:f a'=a')(a b n:Int)(s:List β×Int):OH a b n (r1 f s)=(OH a b n s).map (ga (r1 f) (cA f)):=by
 obtain⟨d,j⟩:=s;simp only[OH,r1,bN,MU f g,Xh,QD,MD,bS,et,en];try rfl
theorem ACT(g:f a'=a')(d:List β)(a b n:Int):ky (d.map f) a b n=(ky d a b n).map (cA f):=by
 have:=Io (r1 f) (cA f) (AGF f g a b n) (d,0);simp only[r1] at this;simp only[ky,this,JP,JV,QD,bS,bN];try rfl
theorem AGJ(g:f a'=a')(m:Int)(s:List β×Int×Int):MI m (r2 f s)=(MI m s).map (ga (r2 f) (r1 f)):=by
 obtain⟨d,i,j⟩:=s;simp only[MI,r1,r2,ACT f g,JP,JV,MD,bS,et,en];try rfl
theorem AJb(g:f a'=a')(d:List β)(a m b:Int):gI (d.map f) a m b=(gI d a m b).map (cA f):=by
 have:=Io (r2 f) (r1 f) (AGJ f g m) (d,bR.wrap (m-a),bR.wrap (b-m));simp only[r1,r2] at this;simp only[gI,r1,this,ACT f g,JP,JV,QD,bS,bN];try rfl
theorem AGE(g:f a'=a')(cmp:α->α->Option Int)(d:List β)(a:Int):Pw cmp (d.map f) a=Pw (fun x y=>cmp (f x) (f y)) d a:=by
 funext ⟨i,j⟩
 simp only[Pw,bN,MU f g];try rfl
theorem AGC(g:f a'=a')(cmp:α->α->Option Int)(d:List β)(a:Int):Pv cmp (d.map f) a=Pv (fun x y=>cmp (f x) (f y)) d a:=by
 funext ⟨i,j⟩
 simp only[Pv,bN,MU f g];try rfl
theorem AGA(o:f a'=a')(cmp:α->α->Option Int)(d:List β)(a m b g n p:Int):NB cmp (d.map f) a m b g n p=NB (fun x y=>cmp (f x) (f y)) d a m b g n p:=by
 funext ⟨i,j⟩
 simp only[NB,bN,MU f o];try rfl
theorem AFz(o:f a'=a')(cmp:α->α->Option Int)(d:List β)(a m b g n p:Int):Ru cmp (d.map f) a m b g n p=Ru (fun x y=>cmp (f x) (f y)) d a m b g n p:=by
 funext ⟨i,j⟩
 simp only[Ru,bN,MU f o];try rfl
theorem AAN(g:f a'=a')(i:Int)(s:List β×Int):MH i (r1 f s)=(MH i s).map (ga (r1 f) (cA f)):=by
 obtain⟨d,j⟩:=s;simp only[MH,r1,bN,MU f g,Xh,QD,MD,bS,et,en];try rfl
theorem AAM(g:f a'=a')(i:Int)(s:List β×Int):MG i (r1 f s)=(MG i s).map (ga (r1 f) (cA f)):=by
 obtain⟨d,j⟩:=s;simp only[MG,r1,bN,MU f g,Xh,QD,MD,bS,et,en];try rfl
theorem AGD(g:f a'=a')(i:Int)(d:List β)(k:Int):AE (MH i) (d.map f,k)=(AE (MH i) (d,k)).map (cA f):=Io (r1 f) (cA f) (AAN f g i) (d,k)
theorem AGB(g:f a'=a')(i:Int)(d:List β)(k:Int):AE (MG i) (d.map f,k)=(AE (MG i) (d,k)).map (cA f):=Io (r1 f) (cA f) (AAM f g i) (d,k)
theorem wQ(g:f a'=a')(cmp:α->α->Option Int):∀ (k:Nat) (d:List β) (a m b:Int),Da cmp k (d.map f) a m b=(Da (fun x y=>cmp (f x) (f y)) k d a m b).map (cA f)
 | 0,_,_,_,_=>rfl
 | k+1,d,a,m,b=>by
  have i:=wQ g cmp k;unfold Da;simp only[AGE f g,AGC f g,AGA f g,AFz f g,AGD f g,AGB f g,AJb f g,i,JP,JV,QD,MD,bS,bN];try rfl
theorem AGI(o:f a'=a')(cmp:α->α->Option Int)(n g:Int)(s:List β×Int×Int):Lb cmp n g (r2 f s)=(Lb (fun x y=>cmp (f x) (f y)) n g s).map (ga (r2 f) (r1 f)):=by
 obtain⟨d,i,j⟩:=s;simp only[Lb,r1,r2,ACU f o,JP,JV,MD,bS,et,en];try rfl
theorem AGG(o:f a'=a')(cmp:α->α->Option Int)(n g:Int)(s:List β×Int×Int):Kf cmp n g (r2 f s)=(Kf (fun x y=>cmp (f x) (f y)) n g s).map (ga (r2 f) (r1 f)):=by
 obtain⟨d,i,j⟩:=s;simp only[Kf,kx,r1,r2,wQ f o,JP,JV,MD,bS,et,en];try rfl
theorem AGH(g:f a'=a')(cmp:α->α->Option Int)(n:Int)(s:List β×Int):Jg cmp n (r1 f s)=(Jg (fun x y=>cmp (f x) (f y)) n s).map (ga (r1 f) (cA f)):=by
 obtain⟨d,i⟩:=s;have:=Io (r2 f) (r1 f) (AGG f g cmp n i) (d,0,bR.wrap (2*i));simp only[r1,r2] at this;simp only[Jg,kx,r1,this,wQ f g,JP,JV,MD,bS,et,en];try rfl
theorem AJa(g:f a'=a')(cmp:α->α->Option Int)(d:List β)(n:Int):cN cmp (d.map f) n=(cN (fun x y=>cmp (f x) (f y)) d n).map (cA f):=by
 have i:=Io (r2 f) (r1 f) (AGI f g cmp n 20) (d,0,20);have h2:=fun d':List β=>Io (r1 f) (cA f) (AGH f g cmp n) (d',20)
 simp only[r1,r2] at i h2;simp only[cN,r1,i,h2,ACU f g,JP,JV,QD,bS,bN];try rfl
end
end Go.Proofs.YtegmpdmpgmpiaaaGreatDoor.stab
namespace Go.Proofs.YtegmpdmpgmpiaaaGreatDoor
open Go Go.RowKit Go.Proofs.YtegmpdmpgmpiaaaGreatDoor.stab
theorem tm{a b:Int}(h:0<=a):a.tmod b=a%b:=Int.tmod_eq_emod_of_nonneg h
theorem td{a b:Int}(h:0<=a):a.tdiv b=a/b:=Int.tdiv_eq_ediv_of_nonneg h
theorem RG{a b:Int}(p:0<b)(P:-4611686018427387904<=a)(I:a<=4611686018427387904):EP a b=bI (a/b):=by
 unfold EP;have g:b≠0:=by omega
 rw[QS g,AB];have h2:=ec a b;have h3:=fm a g;have h4:=fa a p
 have R:-4611686018427387904<=a.tdiv b∧a.tdiv b<=4611686018427387904:=by
  have:(a.tdiv b).natAbs<=a.natAbs:=by rw[Int.natAbs_tdiv];exact Nat.div_le_self _ _
  omega
 rw[Z1 (n:=a.tdiv b) (by omega)]
 by_cases C:0<=a
 ·have j:=td (b:=b) C;have J:=tm (b:=b) C;have:¬ a.tmod b<0:=by omega
  simp[this,j]
 ·have j:a.tdiv b=-((-a)/b):=by
   have:=Int.neg_tdiv a b;rw[td (by omega)] at this;omega
  have J:a.tmod b=-((-a)%b):=by
   have:=Int.neg_tmod a b;rw[tm (by omega)] at this;omega
  have h5:=ec (-a) b;have U:=fm (-a) g;have T:=fa (-a) p
  by_cases c:(-a)%b=0
  ·have:¬ a.tmod b<0:=by omega
   simp only[this,decide_false,hZ,if_false,Option.some.injEq]
   have hd:a/b=-((-a)/b):=by
    have i:b∣-a:=Int.dvd_of_emod_eq_zero c;obtain⟨k,o⟩:=i;have:a=b*(-k):=by rw[kb,← o];omega
    rw[o,hG _ g,this,hG _ g]
   rw[j,hd]
  ·have:a.tmod b<0:=by omega
   simp only[this,decide_true,if_true,Option.some.injEq];rw[Z1 (by omega),j]
   have hd:a/b=-((-a)/b)-1:=by
    have key:a=b*(-((-a)/b)-1)+(b-(-a)%b):=by
     rw[Int.mul_sub,kb,Int.mul_one];omega
    have:=hR (b-(-a)%b) (-((-a)/b)-1) g;rw[ka,← key] at this;rw[this,hO (by omega) (by omega)];omega
   rw[hd]
theorem AGM{a b:Int}(g:0<b)(i:b<=1000000)(o:-1000000000<=a)(j:a<=1000000000):Ni a b=bI (a%b):=by
 unfold Ni;rw[RG g (by omega) (by omega),ej];have h2:=ec a b;have C:=fm a (show b≠0 by omega);have p:=fa a g;rw[hM] at h2;rw[Z1 (n:=a/b*b) (by omega),Z1 (by omega)]
 congr 1;omega
def Rl(e:AF)(c:List AJ)(k:Nat):Int:=((c.getD k a').Time-e.Epoch)%e.Period
theorem nK{e:AF}{c:List AJ}(o:1<=e.Period)(g:e.Period<=1000000)(I:0<=e.Epoch)(C:e.Epoch<=10000000)(p:∀ i,i<c.length->0<=(c.getD i a').Time∧(c.getD i a').Time<=10000000){k:Nat}(j:k<c.length):DS (k:Int) e c=bI (Rl e c k):=by
 have h:=p k j;unfold DS Rl DX;rw[Af,decide_eq_true j,AB,gr,Z1 (by omega),AGM (by omega) g (by omega) (by omega)];rfl
theorem nd{n:Nat}(j:n<=1000):Bf (n:Int)=bI ((c8 n).map fun i:Nat=>(i:Int)):=by
 have:=Sl (step:=BW (n:Int)) (fun _=>ca) (fun i:Nat=>(i:Int)) n (r:=(c8 n).map fun i:Nat=>(i:Int)) (fun out i hi g=>by
  simp only[BW,JK,cb,hi,decide_true,if_true,ej,(Z4 i)];rw[Ba (by simp;omega),AB]) (by
  have:(c8 n).filter (fun _=>ca)=c8 n:=List.filter_eq_self.2 (fun _ _=>rfl);simp[BW,Na,this])
 unfold Bf;rw[this];rfl
def Plc(c:List AJ)(l:List Int):Prop:=l.length=c.length∧∀ x∈l,∃ k:Nat,x=(k:Int)∧k<c.length
theorem Plc.at{c:List AJ}{l:List Int}(h:Plc c l){i:Nat}(hi:i<c.length):∃ k:Nat,l.getD i a'=(k:Int)∧k<c.length:=h.2 _ (Id (by rw[h.1];exact hi) a')
theorem ACZ(e:AF)(c:List AJ):∀ (k:Nat) (d:List Int) (a m b:Int),AH k d a m b e c=Da (fun x y=>BL x y e c) k d a m b
 | 0,_,_,_,_=>rfl
 | k+1,d,a,m,b=>by
  have g:=ACZ e c k;unfold AH Da;simp only[g];rfl
theorem wu(d:List Int)(a m b:Int)(e:AF)(c:List AJ):Ay d a m b e c=kx (fun x y=>BL x y e c) d a m b:=ACZ e c 64 d a m b
theorem j_l3(e:AF)(c:List AJ)(n g:Int):BP n e c g=Kf (fun x y=>BL x y e c) n g:=by
 funext ⟨d,a,b⟩
 unfold BP Kf;simp only[wu]
theorem j_l2(e:AF)(c:List AJ)(n:Int):BQ n e c=Jg (fun x y=>BL x y e c) n:=by
 funext ⟨d,b⟩
 unfold BQ Jg;simp only[j_l3,wu]
theorem AGV(d:List Int)(n:Int)(e:AF)(c:List AJ):BF d n e c=cN (fun x y=>BL x y e c) d n:=by
 unfold BF cN;simp only[j_l2];rfl
def pe(e:AF)(c:List AJ){m:Nat}(x y:Fin m):Bool:=b8 (Rl e c x.val<Rl e c y.val)
theorem wW(e:AF)(c:List AJ)(m:Nat):jR (pe e c (m:=m)):=by
 refine⟨?_,?_⟩<;>(intros;simp only[pe,dtE,decide_eq_false_iff_not] at *;omega)
def Phs(e:AF)(c:List AJ):Prop:=∀ k,k<c.length->DS (k:Int) e c=bI (Rl e c k)
theorem ABP{e:AF}{c:List AJ}(i:Phs e c){m:Nat}(hm:c.length=m):PX (fun x y:Fin m=>BL (x.val:Int) (y.val:Int) e c) (pe e c):=fun x y=>by
 have o:=x.isLt;have j:=y.isLt;simp only[BL];rw[i _ (by omega),ej,i _ (by omega),ej];unfold pe
 by_cases h:Rl e c x.val<Rl e c y.val
 ·have g:(!(Rl e c x.val==Rl e c y.val))=ca:=by simp;omega
  exact⟨-1,by rw[if_pos g,if_pos (decide_eq_true h)],by simp[h]⟩
 ·by_cases h2:Rl e c x.val=Rl e c y.val
  ·have g:(!(Rl e c x.val==Rl e c y.val))=dw:=by simp[h2]
   exact⟨0,by rw[g];rfl,by simp[h]⟩
  ·have g:(!(Rl e c x.val==Rl e c y.val))=ca:=by simpa using h2
   exact⟨1,by rw[if_pos g,if_neg (by simpa using h)],by simp[h]⟩
theorem nH:EN=DX:=by
 funext e t
 unfold EN DX KW Ni;have:IE=EP:=id rfl;rw[this];cases EP (bR.wrap (t-e.Epoch)) e.Period<;>rfl
theorem jz{e:AF}{c:List AJ}(j:Phs e c){k:Nat}(g:k<c.length):EN e (c.getD k a').Time=bI (Rl e c k):=by
 have h:=j k g;unfold DS at h;rw[Af,decide_eq_true g,AB,gr] at h;rw[nH];obtain⟨y,i,h⟩:=AN h;rw[i];exact h
def fv{m:Nat}(d:List (Fin m)):List Int:=d.map fun i=>(i.val:Int)
theorem gJ{m:Nat}(d:List (Fin m)):(fv d).length=d.length:=by simp[fv]
theorem AKL{m:Nat}{d:List (Fin m)}{k:Nat}(h:k<d.length):(fv d).getD k a'=(d[k].val:Int):=by simp[fv,gdE,h]
theorem ABA{e:AF}{c:List AJ}(C:Phs e c)(T:c.length<=1000){m:Nat}(hm:c.length=m){d:List (Fin m)}(hd:d.length<=1000)(i:Fin m):∃ k,k<=d.length∧AE (Fe c e (fv d) (i.val:Int)) ((fv d).length:Int)=bI (k:Int)∧(∀ x∈d.drop k,Rl e c i.val<Rl e c x.val)∧(∀ h:0<k∧k<=d.length,Rl e c (d[k-1]'(by omega)).val<=Rl e c i.val):=by
 have hi:i.val<c.length:=by have:=i.isLt;omega
 obtain⟨y,P,k,rfl,g⟩:=Dq (step:=Fe c e (fv d) (i.val:Int)) (fun s=>∃ k:Nat,s=(k:Int)∧k<=d.length∧∀ x∈d.drop k,Rl e c i.val<Rl e c x.val)
  (fun r=>∃ k:Nat,r=(k:Int)∧k<=d.length∧(∀ x∈d.drop k,Rl e c i.val<Rl e c x.val)∧(∀ h:0<k∧k<=d.length,Rl e c (d[k-1]'(by omega)).val<=Rl e c i.val)) (fun s=>s.toNat) (by
  rintro s ⟨k,rfl,I,h2⟩;cases k with
  | zero=>exact .inr ⟨_,rfl,0,rfl,I,h2,fun h=>absurd h.1 (by omega)⟩
  | succ k=>
   have R:b8 ((0:Int)<((k+1:Nat):Int))=true:=decide_eq_true (by omega);have g:k<d.length:=by omega
   have j:d[k].val<c.length:=by have:=d[k].isLt;omega
   have J:AU (k:Int) (fv d).length=ca:=by rw[Af,gJ];exact decide_eq_true g
   simp only[Fe,R,nE (show k+1<=9223372036854775807 by omega),J,AKL g,Af,j,hi,decide_true,db,ea,AB,dX,gr,jz C j,jz C hi,dc,cI]
   by_cases p:Rl e c i.val<Rl e c d[k].val
   ·left;rw[if_pos (decide_eq_true p)];refine⟨_,rfl,⟨k,rfl,by omega,fun x o=>?_⟩,by simp only[gr];omega⟩;rw[dz g] at o;rcases cL.1 o with rfl|o
    ·exact p
    ·exact h2 x o
   ·right;rw[if_neg (by simpa using p)];exact⟨_,rfl,k+1,rfl,I,h2,fun h=>by simpa using p⟩) (s:=((fv d).length:Int)) ⟨d.length,by rw[gJ],df _,by simp⟩
 exact⟨k,g.1,P,g.2⟩
theorem AAF{e:AF}{c:List AJ}{m:Nat}[Inhabited (Fin m)]{d:List (Fin m)}(hs:Mq (pe e c) d){i:Fin m}{k:Nat}(J:k<=d.length)(C:∀ x∈d.drop k,Rl e c i.val<Rl e c x.val)(h2:∀ h:0<k∧k<=d.length,Rl e c (d[k-1]'(by omega)).val<=Rl e c i.val):Mq (pe e c) (d.take k++([i]++d.drop k))∧JD (pe e c) (d++[i]) (d.take k++([i]++d.drop k)):=by
 have g:=hs;unfold Mq at g
 have low:∀ x∈d.take k,Rl e c x.val<=Rl e c i.val:=fun x o=>by
  obtain⟨j,R,rfl⟩:=bX o;have P:j<k:=by rw[eu] at R;omega
  rw[List.getElem_take];have:=h2 ⟨by omega,J⟩
  by_cases T:j=k-1
  ·subst T;exact this
  ·have I:=f'.1 g j (k-1) (by omega) (by omega) (by omega);simp only[pe,decide_eq_false_iff_not] at I;omega
 constructor
 ·refine Rd (Ol hs k) (Rd (mf (by simp)) (Om hs k) fun x o y p=>?_) fun x o y p=>?_
  ·obtain rfl:x=i:=by simpa using o
   have:=C y p;simp only[pe,decide_eq_false_iff_not];omega
  ·have I:=low x o;simp only[pe,decide_eq_false_iff_not];rcases ew.1 p with q|q
   ·obtain rfl:y=i:=by simpa using q
    omega
   ·have:=C y q;omega
 ·have U:d++[i]=d.take k++(d.drop k++[i]):=by rw[← c7,b9]
  rw[U]
  exact JD.app (JD.refl _) (JD.swap (wW e c m) fun x o y p=>by
   obtain rfl:y=i:=by simpa using p
   exact decide_eq_true (C x o))
theorem qf{e:AF}{c:List AJ}(hg:Phs e c)(hl:c.length<=1000):∃ o,GZ e c=bI o∧Hf e c=bI o∧Plc c o:=by
 unfold GZ Ch BD;rw[nd (by omega),ej,AGV];rcases gn c.length with J|J
 ·refine⟨[],?_,?_,by simp[J],(fun k hk=>by cases hk)⟩
  ·rw[J]
   have e1:∀ cmp:Int->Int->Option Int,cN cmp ([]:List Int) 0=bI []:=fun cmp=>by
    unfold cN lA;rw[Ae (r:=([],0)) (by simp[Lb]),ej];simp only
    rw[Ae (r:=[]) (by
     have:bR.wrap (0+1)=1:=Z1 (by omega);rw[this];simp[MK])]
    simp only[ej,beq_self_eq_true,AB];rw[Ae (r:=[]) (by simp[Jg])];simp only[ej,beq_self_eq_true,AB]
   have e2:=e1 (fun x y=>BL x y e c);simp only[ir,k0,h8];show (((cN (fun x y=>BL x y e c) [] 0).bind _).bind _).bind _=_;rw[e2];rfl
  ·unfold Hf;rw[Ae (r:=[]) (by simp[Ff,J])];rfl
 ·obtain⟨m,hm⟩:∃ m,c.length=m+1:=⟨c.length-1,by omega⟩
  have p:((c8 c.length).map fun i:Nat=>(i:Int))=(cS (m+1)).map fun i=>(i.val:Int):=by
   rw[hm];apply List.ext_getElem
   ·simp
   ·intro i h1 h2;simp
  have C:(cS (m+1)).length=c.length:=by simp[hm]
  obtain⟨d,s1,s2,P⟩:=zl (ABP hg hm) (wW e c (m+1)) (d:=cS (m+1)) (by rw[C];omega);have U:=AJa (fun i:Fin (m+1)=>(i.val:Int)) rfl (fun x y=>BL x y e c) (cS (m+1)) ((cS (m+1)).length:Int);rw[s1] at U;have I:d.length=c.length:=by rw[P.len,C]
  rw[p,bN,U];refine⟨fv d,?_,?_,by rw[gJ];exact I,?_⟩
  ·simp only[bS,ej,bN];have:(d.length==(cS (m+1)).length)=ca:=by simp[I,hm]
   rw[this,AB];rfl
  ·obtain⟨y,hy,d2,rfl,t2,t3⟩:=Dq (step:=Ff c e) (fun s=>∃ (k:Nat) (d:List (Fin (m+1))),s=(fv d,(k:Int))∧k<=m+1∧Mq (pe e c) d∧JD (pe e c) ((cS (m+1)).take k) d) (fun r=>∃ d:List (Fin (m+1)),r=fv d∧Mq (pe e c) d∧JD (pe e c) (cS (m+1)) d) (fun s=>m+1-s.2.toNat) (by
    rintro _ ⟨k,q,rfl,h1,h2,R⟩;have a3:q.length=k:=by rw[R.len,eu];simp;omega
    by_cases g:k<m+1
    ·left;obtain⟨j,j1,j2,j3,j4⟩:=ABA hg hl hm (d:=q) (by omega) ⟨k,g⟩;obtain⟨p1,p2⟩:=AAF h2 j1 j3 j4;have T:(k:Int)<(c.length:Int):=by omega
     have ab:=gJ q;simp only[Ff,T,decide_true,if_true];rw[show AE (Fe c e (fv q) (k:Int)) ((fv q).length:Int)=bI (j:Int) from j2,ej,Z3 (by omega),AB,AGl,Z3 (by omega),AGm];unfold Ku;rw[Ba (by simp;omega),AB,ej,AB,Ba (by simp;omega),AB,Ba (by simp;omega),AB,Aa (by omega)];refine⟨_,rfl,⟨k+1,q.take j++([⟨k,g⟩]++q.drop j),?_,by omega,p1,?_⟩,by simp only[gr];omega⟩
     ·simp[fv]
     ·have hT:(cS (m+1)).take (k+1)=(cS (m+1)).take k++[⟨k,g⟩]:=by
       rw[dT (by simpa using g)];simp
      rw[hT];exact (JD.app R (JD.refl _)).trans p2
    ·right;have T:¬ (k:Int)<(c.length:Int):=by omega
     simp only[Ff,T,decide_false,hZ,if_false];refine⟨_,rfl,q,rfl,h2,?_⟩
     rwa [gg (by simp;omega)] at R) (s:=(([]:List Int),0)) ⟨0,[],rfl,gb _,ev,JD.refl _⟩
   have hu:=YK (wW e c (m+1)) t2 s2 ⟨P.perm.trans t3.perm.symm,fun z=>(P.same z).trans (t3.same z).symm⟩;unfold Hf;rw[hy,hu];rfl
  ·intro x hx;obtain⟨i,_,rfl⟩:=j'.1 hx;have:=i.isLt;exact⟨i.val,rfl,by omega⟩
def Yk(p:AJ):Bool:=(b8 (0<=p.Time)&&b8 (p.Time<=10000000))&&(b8 (-2000<=p.Mag)&&b8 (p.Mag<=20000))
def okP(c:List AJ)(i:Nat):Bool:=Yk (c.getD i a') && !(b8 (0<i)&&b8 ((c.getD i a').Time<=(c.getD (i-1) a').Time))
def PK(c:List AJ):Bool:=(c8 c.length).all (okP c)
theorem Wh{c:List AJ}(J:c.length<=1099511627776){i:Nat}(hi:i<c.length):Ce c c (c.length:Int) (i:Int)=bI (if okP c i=ca then .inl ((i+1:Nat):Int) else .inr (.inr dw)):=by
  simp only[Ce,ED,BT,Es,Af,hi,decide_true,AB,cb,if_true,gr,(Z4 i),ej,dc,cI,fu];unfold okP Yk
  by_cases g:0<i
  · have p:b8 ((0:Int)<(i:Int))=ca:=by simpa using g
    have o:b8 (0<i)=ca:=by simpa using g
    have I:bR.wrap ((i:Int)-1)=((i-1:Nat):Int):=by rw[Z1 (by omega)];omega
    have j:AU ((i-1:Nat):Int) c.length=ca:=by rw[Af];simp;omega
    simp only[p,o,I,j,fu,AB,dX,gr];generalize (b8 (0<=(c.getD i a').Time)&&b8 ((c.getD i a').Time<=10000000))=A;generalize (b8 (-2000<=(c.getD i a').Mag)&&b8 ((c.getD i a').Mag<=20000))=B;generalize b8 ((c.getD i a').Time<=(c.getD (i-1) a').Time)=C;cases A<;>cases B<;>cases C<;>rfl
  · have p:b8 ((0:Int)<(i:Int))=dw:=by simpa using g
    have o:b8 (0<i)=dw:=by simpa using g
    simp only[p,o,iZ,j0,hr,k7,AB,j8,j9];generalize (b8 (0<=(c.getD i a').Time)&&b8 ((c.getD i a').Time<=10000000))=A;generalize (b8 (-2000<=(c.getD i a').Mag)&&b8 ((c.getD i a').Mag<=20000))=B;cases A<;>cases B<;>rfl
theorem Og{c:List AJ}(g:c.length<=1099511627776):EE c=bI (PK c&&b8 (c.length<=100)):=by
  unfold EE
  by_cases h:100<(c.length:Int)
  · have e:b8 (c.length<=100)=dw:=by simp;omega
    simp[h,e]
  · have e:b8 (c.length<=100)=ca:=by simp;omega
    simp only[h,decide_false,hZ,if_false];rw[Kr (step:=Ce c c (c.length:Int)) (okP c) c.length (PK c) (yes:=.inl ()) (no:=.inr dw) (by unfold PK;simp) (fun i hi=>Wh g hi) (by simp[Ce])];simp only[ej,dy,e];cases PK c<;>rfl
theorem Rr{c:List AJ}(h:PK c=ca){i:Nat}(hi:i<c.length):0<=(c.getD i a').Time∧(c.getD i a').Time<=10000000∧-2000<=(c.getD i a').Mag∧(c.getD i a').Mag<=20000:=by
  unfold PK at h;have:=QK h hi;unfold okP Yk at this;simp only[baT,dtE] at this;omega
theorem wn:Lz=fun c=>Ce c c (c.length:Int):=id rfl
theorem Yw{c:List AJ}(g:c.length<=1099511627776):Ir c=bI (PK c&&b8 (c.length<=100)):=by
  unfold Ir;rw[wn,Kr (step:=Ce c c (c.length:Int)) (okP c) c.length (PK c) (yes:=.inl ()) (no:=.inr dw) (by unfold PK;simp) (fun i hi=>Wh g hi) (by simp[Ce])];have e:b8 ((c.length:Int)<=100)=b8 (c.length<=100):=by rw[cc];simp;omega
  simp only[ej,dy];cases PK c<;>simp[e]
def UP(s:List UInt8)(e:AA):Bool:=(e.Star==s) && !e.Fainter
def WW(t:Int)(e:AA):Bool:=e.Time==t
theorem oG{l:List AA}(o:l.length<=1000)(s:List UInt8):BI l s=bI (l.filter (UP s)):=by
  have:=LH (step:=Az s l (l.length:Int)) (fun i=>(l.take i).filter (UP s)) l.length (r:=l.filter (UP s)) (fun i hi=>by
    have j:((l.take i).filter (UP s)).length<=i:=hJ (gk _ _) (by rw[eu];omega)
    have g:(l.take (i+1)).filter (UP s)=if UP s (l.getD i a')=ca then (l.take i).filter (UP s)++[l.getD i a'] else (l.take i).filter (UP s):=by
      rw[dT hi,e7,Cm hi];split<;>rename_i h<;>simp[h]
    simp only[Az,JM,cb,hi,decide_true,if_true,Af,AB,gr,ej,(Z4 i)];rw[Ba (by simp;omega),AB,g];show (if UP s (l.getD i a')=ca then _ else _)=_;split<;>rfl) (by simp[Az])
  unfold BI;rw[iR,iI] at this;rw[this];rfl
def AAT(l:List Int):Prop:=∀ x∈l,-2000<=x∧x<=20000
theorem pM:∀ {l:List Int},AAT l->-2000*(l.length:Int)<=l.sum∧l.sum<=20000*(l.length:Int)
  | [],_=>by simp
  | x::r,h=>by
    have i:=h x (by simp);have h2:=pM (l:=r) fun y g=>h y (fi _ g)
    rw[j5,ff];omega
theorem AFa{l:List Int}(C:l.length<=1000)(o:AAT l):JI l=bI l.sum:=by
  have:=LH (step:=Hl l (l.length:Int)) (fun i=>(l.take i).sum) l.length (r:=l.sum) (fun i hi=>by
    have p:=pM (l:=l.take (i+1)) fun y j=>o y (List.mem_of_mem_take j)
    rw[eu,Nat.min_eq_left (by omega)] at p;have g:(l.take (i+1)).sum=(l.take i).sum+l.getD i a':=by rw[dT hi,List.sum_append,Cm hi];simp
    simp only[Hl,cb,hi,decide_true,if_true,Af,AB,gr,(Z4 i)];rw[← g,Z1 (by omega)]) (by simp[Hl])
  unfold JI;rw[iR,List.sum_nil] at this;rw[this];rfl
theorem AAR{l:List Int}(J:0<l.length)(I:l.length<=1000)(j:AAT l):NJ l=bI ((2*l.sum+l.length)/(2*l.length)):=by
  have hs:=pM j;unfold NJ IY LY;rw[AFa I j,ej,ej,RG (by omega) (by omega) (by omega),ej];obtain⟨n,C⟩:∃ n:Int,n=(l.length:Int):=⟨_,rfl⟩;rw[← C] at hs ⊢;have g:0<n:=by omega
  have p:n<=1000:=by omega
  generalize l.sum=s at hs;have T:=ec s n;have R:=fm s (show n≠0 by omega);have P:=fa s g;have i:s/n*n=s-s%n:=by rw[hM];omega
  rw[Z1 (n:=s/n*n) (by omega),i,Z1 (n:=s-(s-s%n)) (by omega),Z1 (n:=n-(s-(s-s%n))) (by omega)]
  have o:-2000<=s/n∧s/n<=20000:=⟨by rw[hN g];omega,by
    have:s/n<20001:=hQ g (by omega);omega⟩
  have k1:∀ q r:Int,2*s+n=2*n*q+r->0<=r->r<2*n->(2*s+n)/(2*n)=q:=fun q r h a b=>by
    rw[h,ka,hR _ _ (by omega),hO a b];omega
  have k2:2*n*(s/n)=2*(s-s%n):=by rw[← i,Int.mul_assoc,hM n]
  by_cases c:n-(s-(s-s%n))<=s-(s-s%n)
  · rw[if_pos (decide_eq_true c),Z1 (by omega),k1 (s/n+1) (2*(s%n)-n) (by rw[hV,k2];omega) (by omega) (by omega)];rfl
  · rw[if_neg (by simpa using c),k1 (s/n) (2*(s%n)+n) (by rw[k2];omega) (by omega) (by omega)];rfl
theorem vT{s n:Int}(j:0<n)(i:n<=1000)(h2:-100000000<=s)(g:s<=100000000):JO s n=bI ((2*s+n)/(2*n)):=by
  unfold JO;have:IE=EP:=id rfl;rw[this,Z1 (n:=2*s) (by omega),Z1 (n:=2*s+n) (by omega),Z1 (n:=2*n) (by omega),RG (by omega) (by omega) (by omega)];rfl
theorem qZ{g:List AA}(C:g.length<=1000)(out:List AJ)(t:Int):∀ (r:List AA) (i:Nat) (acc:List Int),g.drop i=r->i<=g.length->acc.length<=i->AE (Fk g out t) ((i:Int),acc)=bI (((i+(r.takeWhile (WW t)).length:Nat):Int),acc++(r.takeWhile (WW t)).map AA.Mag)
  | [],i,acc,j,hi,I=>by
    have c:¬ i<g.length:=by have:=congrArg e' j;simp at this;omega
    rw[Ae (r:=((i:Int),acc)) (by simp[Fk,c,AB])];simp
  | e::r,i,acc,j,hi,I=>by
    have c:i<g.length:=by have:=congrArg e' j;simp at this;omega
    rw[dz c] at j;injection j with J h2
    have p:g.getD i a'=e:=by rw[Cm c,J]
    by_cases o:(e.Time==t)=ca
    · rw[Ak (s':=(((i+1:Nat):Int),acc++[e.Mag])) (by
        simp only[Fk,cb,c,decide_true,db,ea,Af,AB,dX,gr,p,o,if_true,(Z4 i)];rw[Ba (by simp;omega),AB]),qZ C out t r (i+1) _ h2 c (by simp;omega),ek (show WW t e=ca from o)]
      simp only[ff,j6,c7,ik,e8];rw[show i+1+(r.takeWhile (WW t)).length=i+((r.takeWhile (WW t)).length+1) by omega]
    · rw[Ae (r:=((i:Int),acc)) (by
        simp only[Fk,cb,c,decide_true,db,ea,Af,AB,dX,gr,p,o,hZ,if_false]),fx (show ¬ WW t e=ca from o)]
      simp
theorem fw{l:List AA}(J:l.length<=1000)(I:∀ e∈l,-2000<=e.Mag∧e.Mag<=20000)(s:List UInt8)(out:List AJ){i0:Nat}(g:i0<l.length):∀ (r:List AA) (k:Nat) (sm:Int) (n:Nat),l.drop k=r->k<=l.length->n<=k->-2000*(k:Int)<=sm->sm<=20000*(k:Int) ->
    AE (GF l s out (i0:Int)) (sm,(n:Int),(k:Int))=bI (sm+(((r.takeWhile (WW (l.getD i0 a').Time)).filter (UP s)).map AA.Mag).sum,((n+((r.takeWhile (WW (l.getD i0 a').Time)).filter (UP s)).length:Nat):Int),((k+(r.takeWhile (WW (l.getD i0 a').Time)).length:Nat):Int))
  | [],k,sm,n,o,R,P,U,T=>by
    have c:¬ k<l.length:=by have:=congrArg e' o;simp at this;omega
    rw[Ae (r:=(sm,(n:Int),(k:Int))) (by simp[GF,c,AB])];simp
  | e::r,k,sm,n,o,R,P,U,T=>by
    have c:k<l.length:=by have:=congrArg e' o;simp at this;omega
    rw[dz c] at o;injection o with h1 h2
    have C:l.getD k a'=e:=by rw[Cm c,h1]
    have hm:=I e (by rw[← C];exact Id c a')
    by_cases j:(e.Time==(l.getD i0 a').Time)=ca
    · rw[ek (show WW (l.getD i0 a').Time e=ca from j)]
      by_cases p:UP s e=ca
      · rw[Ak (s':=(sm+e.Mag,((n+1:Nat):Int),((k+1:Nat):Int))) (by
          have i:((e.Star==s) && !e.Fainter)=true:=p;simp only[GF,cb,c,g,decide_true,db,ea,Af,AB,dX,gr,C,j,i,if_true,(Z4 k),(Z4 n)];rw[Z1 (by omega)]),fw J I s out g r (k+1) _ (n+1) h2 c (by omega) (by omega) (by omega),List.filter_cons_of_pos p]
        simp only[ff,j6,j5];rw[show k+1+(r.takeWhile (WW (l.getD i0 a').Time)).length=k+((r.takeWhile (WW (l.getD i0 a').Time)).length+1) by omega,show ∀ q:Nat,n+1+q=n+(q+1) from fun q=>by omega,Int.add_assoc]
      · rw[Ak (s':=(sm,(n:Int),((k+1:Nat):Int))) (by
          have i:((e.Star==s) && !e.Fainter)=dw:=by simpa[UP] using p
          simp only[GF,cb,c,g,decide_true,db,ea,Af,AB,dX,gr,C,j,i,if_true,hZ,if_false,(Z4 k)]),fw J I s out g r (k+1) _ n h2 c (by omega) (by omega) (by omega),List.filter_cons_of_neg p]
        simp only[ff];rw[show k+1+(r.takeWhile (WW (l.getD i0 a').Time)).length=k+((r.takeWhile (WW (l.getD i0 a').Time)).length+1) by omega]
    · rw[Ae (r:=(sm,(n:Int),(k:Int))) (by
        simp only[GF,cb,c,g,decide_true,db,ea,Af,AB,dX,gr,C,j,hZ,if_false]),fx (show ¬ WW (l.getD i0 a').Time e=ca from j)]
      simp
theorem pl{t:Int}:∀ {r:List AA},r.Pairwise (fun a b=>a.Time<=b.Time)->(∀ x∈r,t<=x.Time)->∀ x∈r.dropWhile (WW t),x.Time≠t
  | [],_,_,x,g=>by simp at g
  | e::r,i,j,x,g=>by
    rw[cf] at i
    by_cases h:WW t e=ca
    · rw[List.dropWhile_cons_of_pos h] at g;exact pl i.2 (fun y o=>j y (fi _ o)) x g
    · rw[List.dropWhile_cons_of_neg h] at g;have p:=j e (by simp);have h2:e.Time≠t:=by simpa[WW] using h
      rcases cL.1 g with rfl|g
      · exact h2
      · have:=i.1 x g;omega
theorem ur{p:AA->Bool}:∀ {a b:List AA},(∀ x∈a,p x=ca)->(∀ x∈b,p x=dw)->(a++b).takeWhile p=a
  | [],[],_,_=>rfl
  | [],y::b,_,h=>by rw[e8,fx (by rw[h y (by simp)];exact Bool.false_ne_true)]
  | x::a,b,h,h2=>by rw[ik,ek (h x (by simp)),ur (fun y g=>h y (fi _ g)) h2]
theorem Rt{l:List AA}(g:FY l=ca){e:AA}(j:e∈l):Mf e=ca:=by
  obtain⟨i,hi,rfl⟩:=bX j;unfold FY at g;have:=QK g hi;unfold wG at this;rw[Cm hi] at this;exact (hS.1 this).1
theorem Yl{e:AA}(h:Mf e=ca):0<=e.Time∧e.Time<=10000000∧-2000<=e.Mag∧e.Mag<=20000:=by
  unfold Mf at h;simp only[baT,dtE] at h;omega
theorem oD{l:List AA}(hg:FY l=ca)(hl:l.length<=1000)(s:List UInt8):∀ (n i i':Nat) (out:List AJ),l.length-i<=n->i<=l.length->i'<=(l.filter (UP s)).length->(l.filter (UP s)).drop i'=(l.drop i).filter (UP s)->out.length<=i->(∀ p∈out,Yk p=ca) ->
    ∃ c,AE (IA l s) (out,(i:Int))=bI c∧AE (Gy (l.filter (UP s))) (out,(i':Int))=bI c∧c.length<=l.length∧∀ p∈c,Yk p=ca:=by
  have hb:∀ e∈l,-2000<=e.Mag∧e.Mag<=20000:=fun e he=>by have:=Yl (Rt hg he);omega
  have bo:l.Pairwise (fun a b=>a.Time<=b.Time):=f'.2 fun i j hi hj b0=>by
    have:=NK hg b0 hj;rw[Cm hi,Cm hj] at this;rcases this with h|h<;>omega
  have bb:(l.filter (UP s)).length<=1000:=hJ (gk _ _) hl;intro n
  induction n with
  | zero=>
    intro i i' out hn hi U hd ho hp;obtain rfl:i=l.length:=by omega
    rw[List.drop_length,iI] at hd;have b1:(l.filter (UP s)).length=i':=by have:=congrArg e' hd;simp at this;omega
    exact⟨out,Ae (by simp[IA]),Ae (by simp[Gy,b1]),ho,hp⟩
  | succ n ih=>
    intro i i' out hn hi U hd ho hp
    by_cases ci:i<l.length
    · obtain⟨t,ht⟩:∃ t,(l.getD i a').Time=t:=⟨_,rfl⟩;have C:=fw hl hb s out ci (l.drop i) i 0 0 rfl hi (gb _) (by omega) (by omega);rw[ht] at C;have R:l.drop i=l.getD i a'::l.drop (i+1):=by rw[dz ci,Cm ci]
      have ad:(l.drop i).Pairwise (fun a b=>a.Time<=b.Time):=fI (hX i l) bo
      have a8:∀ x∈l.drop i,t<=x.Time:=fun x o=>by
        rw[R] at ad o;rcases cL.1 o with rfl|o
        · omega
        · have:=(cf.1 ad).1 x o;omega
      have ab:=pl ad a8;obtain⟨g,aa⟩:∃ g,g=(l.drop i).takeWhile (WW t):=⟨_,rfl⟩;obtain⟨rest,au⟩:∃ r,r=(l.drop i).dropWhile (WW t):=⟨_,rfl⟩;have I:g++rest=l.drop i:=by rw[aa,au];exact List.takeWhile_append_dropWhile
      rw[← aa] at C;rw[← au] at ab
      have c5:0<g.length:=by
        rw[aa,R,ek (show WW t (l.getD i a')=ca by unfold WW;rw[ht];simp)];simp
      have cd:g.length+rest.length=l.length-i:=by have:=congrArg e' I;simpa using this
      have a2:∀ x∈g,WW t x=true:=fun x o=>by rw[aa] at o;exact List.all_eq_true.1 (List.all_takeWhile (p:=WW t) (l:=l.drop i)) x o
      have b2:∀ x∈g,x∈l:=fun x o=>List.mem_of_mem_drop (by rw[← I];exact ew.2 (.inl o))
      have J:l.drop (i+g.length)=rest:=by rw[← fA,← I];simp
      have ae:(l.drop i).filter (UP s)=g.filter (UP s)++rest.filter (UP s):=by rw[← I,e7]
      have c':(i:Int)<(l.length:Int):=by omega
      obtain⟨F,hF⟩:∃ F,F=g.filter (UP s):=⟨_,rfl⟩;rw[← hF] at C ae;have c6:F.length<=g.length:=by rw[hF];exact gk _ _
      have aj:∀ x∈F,x∈g:=fun x o=>by rw[hF] at o;exact (h7.1 o).1
      have a0:AAT (F.map AA.Mag):=fun x o=>by
        obtain⟨e,he,rfl⟩:=j'.1 o;exact hb e (b2 e (aj e he))
      have be:=pM a0;rw[bN] at be;simp only[Int.zero_add,hI] at C;rw[show ((0:Nat):Int)=0 from rfl] at C;rcases gn F.length with T|T
      · have b7:F=[]:=b'.1 T;obtain⟨c,e1,e2,e3⟩:=ih (i+g.length) i' out (by omega) (by omega) U (by rw[hd,ae,b7,J];rfl) (by omega) hp;refine⟨c,?_,e2,e3⟩
        rw[Ak (s':=(out,((i+g.length:Nat):Int))) (by
          simp only[IA,c',decide_true,if_true,C,ej,T];simp)]
        exact e1
      · obtain⟨f,fs,a3⟩:∃ f fs,F=f::fs:=by
          cases F with
          | nil=>simp at T
          | cons f fs=>exact⟨f,fs,rfl⟩
        have P:(l.filter (UP s)).drop i'=F++rest.filter (UP s):=by rw[hd,ae]
        have ao:i'<(l.filter (UP s)).length:=by have:=congrArg e' P;simp at this;omega
        have b5:(l.filter (UP s)).getD i' a'=f:=by
          have:=P;rw[dz ao,a3] at this;injection this with h1
          rw[Cm ao,h1]
        have b4:f.Time=t:=by
          have:=a2 f (aj f (by rw[a3];simp));simpa[WW] using this
        have a7:((l.filter (UP s)).drop i').takeWhile (WW t)=F:=by
          rw[P];refine ur (fun x o=>a2 x (aj x o)) fun x o=>?_
          have:=ab x (h7.1 o).1;simpa[WW] using this
        have ac:=qZ bb out t _ i' [] rfl U (gb _);rw[a7] at ac;obtain⟨v,hv⟩:∃ v,v=(2*(F.map AA.Mag).sum+F.length)/(2*F.length):=⟨_,rfl⟩;have a1:=AAR (l:=F.map AA.Mag) (by simpa using T) (by rw[bN];omega) a0;rw[bN,← hv] at a1;have av:=vT (s:=(F.map AA.Mag).sum) (n:=(F.length:Int)) (by omega) (by omega) (by omega) (by omega);rw[← hv] at av
        have cm:-2000<=v∧v<=20000:=by
          have ax:(0:Int)<2*(F.length:Int):=by omega
          refine⟨by rw[hv,hN ax];omega,?_⟩;have:v<20001:=by rw[hv];exact hQ ax (by omega)
          omega
        have cn:=Yl (Rt hg (Id ci a'))
        obtain⟨c,e1,e2,e3⟩:=ih (i+g.length) (i'+F.length) (out++[⟨t,v⟩]) (by omega) (by omega) (by have:=congrArg e' P;simp at this;omega) (by rw[← fA,P,J];simp) (by simp;omega) (fun p bs=>by
          rcases ew.1 bs with q|q
          · exact hp p q
          · obtain rfl:p=⟨t,v⟩:=by simpa using q
            unfold Yk;simp only[baT,dtE];omega)
        refine⟨c,?_,?_,e3⟩
        · rw[Ak (s':=(out++[⟨t,v⟩],((i+g.length:Nat):Int))) (by
            have hq:b8 ((0:Int)<(F.length:Int))=true:=decide_eq_true (by omega);simp only[IA,c',decide_true,if_true,C,ej,hq,av,Af,ci,AB,gr,ht];rw[Ba (by simp;omega),AB])]
          exact e1
        · rw[Ak (s':=(out++[⟨t,v⟩],((i'+F.length:Nat):Int))) (by
            have c2:(i':Int)<((l.filter (UP s)).length:Int):=by omega
            simp only[Gy,c2,decide_true,if_true,Af,ao,AB,gr,b5,b4,ac,ej,e8,a1];rw[Ba (by simp;omega),AB])]
          exact e2
    · obtain rfl:i=l.length:=by omega
      exact ih l.length i' out (by omega) (by omega) U hd ho hp
theorem NE{l:List AA}(j:l.length<=1000)(s:List UInt8):∃ c z,Iy l s=bI (c,z)∧Fv l s=bI (c,z)∧c.length<=100∧∀ p∈c,Yk p=ca:=by
  unfold Iy Fv;rw[Hu (by omega),ej,Ib,ej,UW (by omega),ej,IU,ej];split
  · exact⟨_,_,rfl,rfl,by simp,by simp⟩
  · rename_i i;have i:(FY l&&b8 (l.length<=100))=ca:=by simpa using i
    obtain⟨I,g⟩:=hS.1 i;have g:=of_decide_eq_true g;split
    · exact⟨_,_,rfl,rfl,by simp,by simp⟩
    · rw[oG j,ej];obtain⟨c,C,o,R,P⟩:=oD I j s l.length 0 0 [] (by omega) (by omega) (by omega) rfl (by simp) (by simp);unfold NQ;have J:((0:Nat):Int)=0:=rfl;rw[J] at C o;rw[C,o];exact⟨c,0,rfl,rfl,by omega,P⟩
theorem AAS{c:List AJ}(j:c.length<=1000):LB c=bI (c.map AJ.Mag):=by
  have:=LH (step:=IW c (c.length:Int)) (fun i=>(c.take i).map AJ.Mag) c.length (r:=c.map AJ.Mag) (fun i hi=>by
    simp only[IW,cb,hi,decide_true,if_true,Af,AB,gr,(Z4 i)];rw[Ba (by simp;omega),AB,dT hi,Cm hi,ix];rfl) (by simp[IW])
  unfold LB;have g:((c.take 0).map AJ.Mag)=[]:=by simp
  rw[g] at this;rw[this];simp
theorem bw{c:List AJ}(R:c.length<=1000):∃ v z,Ev c=bI (v,z)∧Cr c=bI (v,z)∧SD v:=by
  unfold Ev Cr;rw[Og (by omega),ej,Yw (by omega),ej];split
  · exact⟨_,_,rfl,rfl,by unfold SD;decide⟩
  · split
    · exact⟨_,_,rfl,rfl,by unfold SD;decide⟩
    · rename_i I;have I:c.length≠0:=by intro e;apply I;simp[e]
      obtain⟨m,hm⟩:∃ m,m=c.map AJ.Mag:=⟨_,rfl⟩;have P:m.length=c.length:=by rw[hm];simp
      have j:kH m=ca:=by unfold kH;simp;omega
      have o:∀ i,i<c.length->(c.getD i a').Mag=m.getD i 0:=fun i hi=>by
        rw[hm,Cm hi,gdE,hW,geE hi];rfl
      rw[AAS R,ej,← hm];unfold qd eH;rw[if_pos j,ej,if_pos j,ej]
      obtain⟨y,J,rfl⟩:=Dq (step:=Ed c) (fun s=>∃ k:Nat,s=(ds (m.take k),gw (m.take k),(k:Int))∧0<k∧k<=c.length) (fun r=>r=(ds m,gw m)) (fun s=>c.length-s.2.2.toNat) (by
        rintro _ ⟨k,rfl,C,k1⟩
        by_cases g:k<c.length
        · left;have p:(k:Int)<(c.length:Int):=by omega
          simp only[Ed,p,decide_true,if_true,Af,g,AB,gr,o k g,(Z4 k)]
          have U:Kv (ds (m.take k)) (m.getD k 0)=bI (ds (m.take (k+1))):=by
            rw[Lib.minOf_step m k C (by omega)];generalize m.getD k 0=a;generalize ds (m.take k)=b;unfold Kv;split<;>rename_i h<;>simp at h<;>congr 1<;>omega
          have T:Kw (gw (m.take k)) (m.getD k 0)=bI (gw (m.take (k+1))):=by
            rw[Lib.maxOf_step m k C (by omega)];generalize m.getD k 0=a;generalize gw (m.take k)=b;unfold Kw;split<;>rename_i h<;>simp at h<;>congr 1<;>omega
          rw[U,ej,T,ej];exact⟨_,rfl,⟨k+1,rfl,by omega,g⟩,by simp only[gr];omega⟩
        · right;have p:¬ (k:Int)<(c.length:Int):=by omega
          simp only[Ed,p,decide_false,hZ,if_false];refine⟨_,rfl,?_⟩;rw[gg (by omega)]) (s:=((c.getD 0 a').Mag,(c.getD 0 a').Mag,1)) ⟨1,by rw[o 0 (by omega),Lib.minOf_one,Lib.maxOf_one];rfl,by omega,by omega⟩
      rw[Z2 (by omega),AB,J,ej];exact⟨_,_,rfl,rfl,pC _⟩
theorem kq{e:AF}{c:List AJ}(j:1<=e.Period)(g:e.Period<=1000000)(p:0<=e.Epoch)(o:e.Epoch<=10000000)(C:PK c=ca):Phs e c:=fun k I=>nK j g p o (fun i hi=>⟨(Rr C hi).1,(Rr C hi).2.1⟩) I
theorem bF{e:AF}{c:List AJ}(j:c.length<=100):∃ o z,Gb e c=bI (o,z)∧EV e c=bI (o,z)∧o.length<=100∧∀ x∈o,0<=x∧x<=100:=by
  unfold Gb Fr ED EV NO Ft DV;simp only[Es,De,ej,dc,cI,fu,AB,Og (show c.length<=1099511627776 by omega),Yw (show c.length<=1099511627776 by omega)];split
  · exact⟨_,_,rfl,rfl,by simp,by simp⟩
  · rename_i h;simp only[iN,ef,not_or,h',baT,dtE] at h;obtain⟨o,p,h2,g⟩:=qf (e:=e) (c:=c) (kq (by omega) (by omega) (by omega) (by omega) h.2.1) (by omega);rw[p,h2];refine⟨_,_,rfl,rfl,by rw[g.1];exact j,fun x i=>?_⟩;obtain⟨k,rfl,C⟩:=g.2 x i;omega
theorem zG{a b:Int}(g:-100000<=a∧a<=100000)(h2:-100000<=b∧b<=100000):EC (a-b)=FC (b-a):=by
  unfold EC FC
  by_cases c1:a-b<0
  · rw[if_pos (decide_eq_true c1),if_neg (by simp;omega),Z1 (by omega)];congr 1;omega
  · rw[if_neg (by simpa using c1)]
    by_cases c2:b-a<0
    · rw[if_pos (decide_eq_true c2),Z1 (by omega)];congr 1;omega
    · rw[if_neg (by simpa using c2)];congr 1;omega
theorem kQ{c:List AJ}{p:Int}(T:1<=p)(R:p<=1000000)(U:PK c=ca)(h0:0<c.length)(hl:c.length<=100):∃ v,DR c p=bI v∧FM c p=bI v:=by
  obtain⟨q,h1,h2,hq⟩:=qf (e:=⟨0,p⟩) (c:=c) (kq T R (by simp) (by simp) U) (by omega);unfold DR FM;rw[h1,ej,h2,ej];have g:=hq.1;have J:∀ i,i<c.length->∃ k:Nat,q.getD i a'=(k:Int)∧k<c.length:=fun i hi=>hq.at hi
  have key:∀ (n:Int) (i:Nat),i<c.length->∃ v,Bw c q (q.length:Int) (n,(i:Int))=bI (.inl (v,((i+1:Nat):Int)))∧ET c q (n,(i:Int))=bI (.inl (v,((i+1:Nat):Int))):=fun n i j=>by
    obtain⟨k,o,k1⟩:=J i j;have hm:(((i+1:Nat):Int)).tmod (c.length:Int)=(((i+1)%c.length:Nat):Int):=by rw[tm (by omega)];omega
    have C:(i+1)%c.length<c.length:=Nat.mod_lt _ h0;obtain⟨k2,P,k3⟩:=J _ C;have g1:=Rr U k1;have g2:=Rr U k3;simp only[Bw,ET,g,cb,j,decide_true,if_true,Af,AB,(Z4 i),hm,C,QS (show (c.length:Int)≠0 by omega),gr,o,P,k1,k3];rw[Z1 (n:=(c.getD k a').Mag-(c.getD k2 a').Mag) (by omega),Z1 (n:=(c.getD k2 a').Mag-(c.getD k a').Mag) (by omega)]
    have ha:EC ((c.getD k a').Mag-(c.getD k2 a').Mag)=FC ((c.getD k2 a').Mag-(c.getD k a').Mag) :=
       zG (by omega) (by omega)
    rw[ha]
    obtain⟨a,aa⟩:∃ a,FC ((c.getD k2 a').Mag-(c.getD k a').Mag)=bI a:=by
      unfold FC;split<;>exact⟨_,rfl⟩
    rw[aa];exact⟨_,rfl,rfl⟩
  have hw:=Qi (step:=Bw c q (q.length:Int)) (step':=ET c q) (fun s=>∃ i:Nat,s.2=(i:Int)∧i<=c.length) (by
    rintro⟨n,z⟩ ⟨i,hi,I⟩;have hi:z=(i:Int):=hi;subst hi
    by_cases j:i<c.length
    · obtain⟨v,o,P⟩:=key n i j;rw[o,P]
    · have c2:¬ (i:Int)<(c.length:Int):=by omega
      simp[Bw,ET,g,c2]) (by
    rintro⟨n,z⟩ s' ⟨i,hi,I⟩ e;have hi:z=(i:Int):=hi;subst hi
    by_cases j:i<c.length
    · obtain⟨v,o,P⟩:=key n i j;rw[o] at e;cases e
      exact⟨i+1,rfl,j⟩
    · have c2:¬ (i:Int)<(c.length:Int):=by omega
      simp[Bw,g,c2] at e) (s:=(0,0)) ⟨0,rfl,gb _⟩
  obtain⟨y,hy,_⟩:=Dq (step:=Bw c q (q.length:Int)) (fun s=>∃ i:Nat,s.2=(i:Int)∧i<=c.length) (fun _=>True) (fun s=>c.length-s.2.toNat) (by
    rintro⟨n,z⟩ ⟨i,hi,I⟩;have hi:z=(i:Int):=hi;subst hi
    by_cases j:i<c.length
    · left;obtain⟨v,o,P⟩:=key n i j;exact⟨_,o,⟨i+1,rfl,j⟩,by simp only[gr];omega⟩
    · right;have c2:¬ (i:Int)<(c.length:Int):=by omega
      simp only[Bw,g,c2,decide_false,hZ,if_false];exact⟨_,rfl,trivial⟩) (s:=(0,0)) ⟨0,rfl,gb _⟩
  rw[← hw,hy];exact⟨_,rfl,rfl⟩
theorem SZ:∀ (l:List Int) (a:Int),l.foldl min a=a∨l.foldl min a∈l
  | [],a=>.inl rfl
  | x::r,a=>by
    rcases SZ r (min a x) with h|h
    · rw[iB,h]
      by_cases c:a<=x
      · rw[Int.min_eq_left c];exact .inl rfl
      · rw[Int.min_eq_right (by omega)];exact .inr fy
    · exact .inr (fi _ h)
theorem sx{l:List Int}(h:l≠[]):ds l∈l:=by
  unfold ds;cases l with
  | nil=>exact absurd rfl h
  | cons x r=>
    rcases SZ (x::r) ((x::r).headD 0) with e|e
    · rw[e];exact fy
    · exact e
theorem Py:∀ (l:List Int) (a x:Int),(x=a∨x∈l)->l.foldl min a<=x
  | [],a,x,h=>by rcases h with rfl|h<;>simp at *
  | y::r,a,x,h=>by
    rw[iB];have g:=Py r (min a y) (min a y) (.inl rfl);rcases h with rfl|h
    · omega
    · rcases cL.1 h with rfl|h
      · omega
      · exact Py r _ x (.inr h)
theorem mM{l:List Int}(P:l.length<=1099511627776){b:Nat}(g:b<l.length)(J:∀ i,i<l.length->l.getD b a'<=l.getD i a')(h2:∀ i,i<b->l.getD b a'<l.getD i a'):DJ l (ds l)=bI (b:Int):=by
  have o:ds l=l.getD b a':=by
    have hm:l.getD b a'∈l:=Id g a';have p:ds l<=l.getD b a':=by unfold ds;exact Py _ _ _ (.inr hm)
    obtain⟨i,hi,e⟩:=bX (sx (l:=l) (by rintro rfl;simp at g));have:=J i hi;rw[Cm hi,e] at this;omega
  unfold DJ
  rw[Lq (step:=Cf l (ds l) (l.length:Int)) (fun i=>ds l==l.getD i a') (fun j=>(j:Int)) l.length (fun i hi=>by
    simp only[Cf,cb,hi,decide_true,if_true,Af,AB,gr,(Z4 i)];cases (ds l==l.getD i a')<;>rfl) (by simp[Cf])]
  have I:(c8 l.length).find? (fun i=>ds l==l.getD i a')=bI b:=by
    rw[List.find?_range_eq_some];refine⟨by simp[o],by simpa using g,fun j C=>?_⟩;have:=h2 j C;rw[o,ef,beq_eq_false_iff_ne];omega
  rw[I];rfl
theorem ACE{l:List Int}(h0:0<l.length)(hl:l.length<=10000000):∃ b:Nat,b<l.length∧KB l 0 (-1)=bI (b:Int)∧(∀ i,i<l.length->l.getD b a'<=l.getD i a')∧∀ i,i<b->l.getD b a'<l.getD i a':=by
  obtain⟨y,hy,b,rfl,U,T,R⟩:=Dq (step:=Fd l 0 (-1)) (fun s=>∃ k:Nat,s.2=(k:Int)∧k<=l.length∧((k=0∧s.1=-1)∨∃ b:Nat,s.1=(b:Int)∧b<k∧(∀ i,i<k->l.getD b a'<=l.getD i a')∧∀ i,i<b->l.getD b a'<l.getD i a'))
    (fun r=>∃ b:Nat,r=(b:Int)∧b<l.length∧(∀ i,i<l.length->l.getD b a'<=l.getD i a')∧∀ i,i<b->l.getD b a'<l.getD i a') (fun s=>l.length-s.2.toNat) (by
    rintro⟨z,w⟩ ⟨k,C,ab,g⟩;have C:w=(k:Int):=C;subst C;have j:(b8 ((0:Int)<=(k:Int))&&b8 ((k:Int)<=-1))=dw:=by simp;omega
    by_cases c:k<l.length
    · left;have p:(k:Int)<(l.length:Int):=by omega
      rcases g with⟨rfl,g⟩|⟨b,g,b1,o,P⟩
      · have g:z=-1:=g;subst g;refine⟨(((0:Nat):Int),((0+1:Nat):Int)),?_,⟨1,rfl,by omega,.inr ⟨0,rfl,by omega,fun i hi=>by rw[show i=0 by omega];exact ke _,fun i hi=>absurd hi (by omega)⟩⟩,by simp only[gr];omega⟩;simp only[Fd,p,decide_true,if_true,j,hZ,if_false,(Z4 0)];rfl
      · have g:z=(b:Int):=g;subst g;have J:b8 ((b:Int)<0)=false:=decide_eq_false (by omega);have I:b<l.length:=by omega
        simp only[Fd,p,decide_true,if_true,j,hZ,if_false,J,hr,db,ea,Af,c,I,AB,gr,(Z4 k)]
        by_cases h:l.getD k a'<l.getD b a'
        · rw[if_pos (decide_eq_true h)];refine⟨_,rfl,⟨k+1,rfl,c,.inr ⟨k,rfl,by omega,fun i hi=>?_,fun i hi=>?_⟩⟩,by simp only[gr];omega⟩
          · by_cases e:i=k
            · subst e;exact ke _
            · have:=o i (by omega);omega
          · have:=o i hi;omega
        · rw[if_neg (by simpa using h)];refine⟨_,rfl,⟨k+1,rfl,c,.inr ⟨b,rfl,by omega,fun i hi=>?_,P⟩⟩,by simp only[gr];omega⟩
          by_cases e:i=k
          · subst e;omega
          · exact o i (by omega)
    · right;have p:¬ (k:Int)<(l.length:Int):=by omega
      rcases g with⟨rfl,_⟩|⟨b,g,b1,o,P⟩
      · omega
      · have g:z=(b:Int):=g;subst g;simp only[Fd,p,decide_false,hZ,if_false];exact⟨_,rfl,b,rfl,by omega,fun i hi=>o i (by omega),P⟩) (s:=(-1,0)) ⟨0,rfl,gb _,.inl ⟨rfl,rfl⟩⟩
  unfold KB;rw[hy];exact⟨b,U,rfl,T,R⟩
theorem nI{c:List AJ}{x:CB}(h0:1<=x.From)(h1:x.From<=x.To)(h2:x.To<=1000000)(h3:1<=x.Step)(h4:x.Step<=1000000)(hg:PK c=ca)(aj:0<c.length)(ae:c.length<=100):
    ∃ ps ls:List Int,Ef x=bI ps∧Er c ps=bI ls∧Kt c x=bI ls∧0<ps.length∧ps.length<=1000001∧ls.length=ps.length∧∀ j,j<ps.length->ps.getD j a'=x.From+x.Step*j∧ps.getD j a'<=x.To:=by
  obtain⟨m,hm⟩:∃ m:Nat,(m:Int)=(x.To-x.From)/x.Step+1:=⟨((x.To-x.From)/x.Step+1).toNat,by
    have:=iS (show 0<=x.To-x.From by omega) (show 0<=x.Step by omega);omega⟩
  have e1:=ec (x.To-x.From) x.Step;have e2:=fm (x.To-x.From) (show x.Step≠0 by omega);have e3:=fa (x.To-x.From) (show 0<x.Step by omega);have a0:=iS (show 0<=x.To-x.From by omega) (show 0<=x.Step by omega)
  have ay:(x.To-x.From)/x.Step<=1000000:=by
    have:=Int.ediv_le_self x.Step (show 0<=x.To-x.From by omega);omega
  have aa:∀ j:Nat,(j:Int)<=(x.To-x.From)/x.Step->x.Step*(j:Int)<=x.Step*((x.To-x.From)/x.Step):=fun j g=>Int.mul_le_mul_of_nonneg_left g (by omega)
  have o:∀ j:Nat,j<m->x.From+x.Step*(j:Int)<=x.To:=fun j g=>by have:=aa j (by omega);omega
  have J:∀ j:Nat,0<=x.Step*(j:Int):=fun j=>j7 (by omega) (by omega)
  have C:¬ x.From+x.Step*(m:Int)<=x.To:=by
    rw[hm,hV];omega
  have T:∀ j:Nat,x.From+x.Step*((j+1:Nat):Int)=x.From+x.Step*(j:Int)+x.Step:=fun j=>by rw[Int.natCast_add,hV];omega
  have hL:∀ j:Nat,j<m->∃ v,DR c (x.From+x.Step*(j:Int))=bI v∧FM c (x.From+x.Step*(j:Int))=bI v:=fun j g=>kQ (by have:=J j;omega) (by have:=o j g;omega) hg aj ae
  obtain⟨P,p⟩:∃ P:Nat->Int,P=fun j:Nat=>x.From+x.Step*(j:Int):=⟨_,rfl⟩
  obtain⟨L,au⟩:∃ L:Nat->Int,L=fun j:Nat=>(DR c (x.From+x.Step*(j:Int))).getD 0:=⟨_,rfl⟩
  have ac:∀ j,j<m->DR c (P j)=bI (L j)∧FM c (P j)=bI (L j):=fun j g=>by
    obtain⟨v,a,b⟩:=hL j g;rw[p,au];simp only[a,b,cI];exact⟨trivial,trivial⟩
  have U:(∀ j:Nat,j<m->((c8 m).map P).getD j a'=P j):=fun j g=>by simp[gdE,g]
  have I:∀ (f:Nat->Int) (j:Nat),(c8 (j+1)).map f=(c8 j).map f++[f j]:=fun f j=>by rw[List.range_succ,ix];rfl
  have w1:=PZ (step:=Dl x) (fun j=>((c8 j).map P,P j)) m (r:=(c8 m).map P) (fun j g=>by
    have h5:=o j g;have h6:=J j;have i:P j=x.From+x.Step*(j:Int):=by rw[p]
    have R:P (j+1)=P j+x.Step:=by rw[p];exact T j
    simp only[Dl];rw[if_pos (decide_eq_true (by omega)),Ba (by simp;omega),AB,I,R,Z1 (by omega)]) (by
    have i:P m=x.From+x.Step*(m:Int):=by rw[p]
    simp only[Dl];rw[if_neg (by rw[i];simpa using C)])
  have w2:=PZ (step:=IQ c x) (fun j=>((c8 j).map L,P j)) m (r:=(c8 m).map L) (fun j g=>by
    have h5:=o j g;have h6:=J j;have i:P j=x.From+x.Step*(j:Int):=by rw[p]
    have R:P (j+1)=P j+x.Step:=by rw[p];exact T j
    simp only[IQ];rw[if_pos (decide_eq_true (by omega)),(ac j g).2,ej,Ba (by simp;omega),AB,I,R,Z1 (by omega)]) (by
    have i:P m=x.From+x.Step*(m:Int):=by rw[p]
    simp only[IQ];rw[if_neg (by rw[i];simpa using C)])
  have w3:=LH (step:=Dy c ((c8 m).map P) (((c8 m).map P).length:Int)) (fun j=>(c8 j).map L) m (r:=(c8 m).map L) (fun j g=>by
    have ad:((c8 m).map P).length=m:=by simp
    simp only[Dy,ad,cb,g,decide_true,if_true,Af,AB,gr,U j g,(ac j g).1,ej,(Z4 j)];rw[Ba (by simp;omega),AB,I]) (by simp[Dy])
  have ao:P 0=x.From:=by rw[p];simp
  simp only[ir,k0,ao] at w1 w2 w3;refine⟨(c8 m).map P,(c8 m).map L,?_,?_,?_,by simp;omega,by simp;omega,by simp,fun j g=>?_⟩
  · unfold Ef;rw[w1];rfl
  · unfold Er;rw[w3];rfl
  · unfold Kt;rw[w2];rfl
  · have ab:j<m:=by simpa using g
    rw[U j ab,p];exact⟨rfl,o j ab⟩
theorem mF(x:CB):∃ b,Et x=bI b∧Kj x=bI b∧(b=ca->1<=x.From∧x.From<=x.To∧x.To<=1000000∧1<=x.Step∧x.Step<=1000000):=by
  unfold Et Kj DV JN;simp only[Es,De,ej,dc,cI,fu,AB]
  by_cases g:(1<=x.From∧x.From<=1000000)∧(x.From<=x.To∧x.To<=1000000)∧(1<=x.Step∧x.Step<=1000000)
  · obtain⟨a,b,c⟩:=g;have i:nz x.Step=true:=QS (by omega);simp only[a.1,a.2,b.1,b.2,c.1,c.2,decide_true,j9,db,j8,hZ,if_false,i,AB,dc,cI,fu,dX,Bool.and_self];exact⟨_,rfl,rfl,fun _=>⟨trivial,trivial,trivial,trivial,trivial⟩⟩
  · have hF:(((b8 (1<=x.From)&&b8 (x.From<=1000000))&&(b8 (x.From<=x.To)&&b8 (x.To<=1000000)))&&(b8 (1<=x.Step)&&b8 (x.Step<=1000000)))=dw:=by
      rw[← Bool.not_eq_true];simp only[baT,dtE];exact fun h=>g ⟨h.1.1,h.1.2,h.2⟩
    have j:((!(b8 (1<=x.From)&&b8 (x.From<=1000000)) || !(b8 (x.From<=x.To)&&b8 (x.To<=1000000))) || !(b8 (1<=x.Step)&&b8 (x.Step<=1000000)))=ca:=by
      rw[← k8,← k8,hF];rfl
    rw[if_pos j];simp only[hF,hr,k7,AB,iZ];exact⟨_,rfl,rfl,fun h=>by cases h⟩
theorem Xe{c:List AJ}{x:CB}(hl:c.length<=1000):∃ v z,Fl c x=bI (v,z)∧Co c x=bI (v,z)∧SD v:=by
  unfold Fl JJ Co KV LL;obtain⟨b,hb,C,hx⟩:=mF x;rw[Og (by omega),ej,Yw (by omega),ej];simp only[hb,C,dc,cI,fu,AB];split
  · exact⟨_,_,rfl,rfl,by unfold SD;decide⟩
  · rename_i J;simp only[iN,ef,not_or,h',baT,dtE] at J;obtain⟨⟨hg,P⟩,p⟩:=J;obtain⟨q1,q2,U,T,R⟩:=hx p
    by_cases g:(40:Int)<(c.length:Int)
    · rw[if_pos (decide_eq_true g),if_pos (decide_eq_true g)];exact⟨0,5,rfl,rfl,by unfold SD;decide⟩
    · have i:¬ (b8 ((40:Int)<(c.length:Int)))=ca:=by simpa using g
      rw[if_neg i,if_neg i]
      by_cases I:(c.length:Int)<3
      · rw[if_pos (decide_eq_true I),ej,ej,if_pos (show ((0:Int)==0&&b8 ((c.length:Int)<3))=ca by simp[I])];exact⟨0,3,rfl,rfl,by unfold SD;decide⟩
      · obtain⟨ps,ls,e1,e2,e3,n1,n2,n3,n4⟩:=nI (c:=c) q1 q2 U T R hg (by omega) (by omega);obtain⟨j,j1,j2,j3,j4⟩:=ACE (l:=ls) (by omega) (by omega);have hm:kH ls=ca:=by unfold kH;simp;omega
        have o:b8 ((c.length:Int)<3)=false:=decide_eq_false I;obtain⟨p1,p2⟩:=n4 j (by omega);have av:0<=x.Step*(j:Int):=j7 (by omega) (by omega);simp only[o,j0,hZ,if_false,ej,beq_self_eq_true,db,e1,e3,j2];unfold KZ eH;rw[e2,ej,if_pos hm,ej,mM (by omega) j1 j3 j4,ej,Af,decide_eq_true (by omega),AB,gr,p1,Z1 (n:=x.Step*(j:Int)) (by omega),Z1 (by omega)];exact⟨_,_,rfl,rfl,by unfold SD;omega⟩
