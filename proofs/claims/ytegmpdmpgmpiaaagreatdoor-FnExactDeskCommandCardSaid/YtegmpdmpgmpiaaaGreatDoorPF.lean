/- Lemmas. No condition. -/
import Derived.Test.YtegmpdmpgmpiaaaGreatDoorP3
open Bool renaming true->b9,not_true->bI,or_true->bX,false->b',not_false->c8,true_and->ca,eq_iff_iff->cm,false_and->cn,and_true->cI,and_eq_true_iff->cS,false_or->c',and_false->df,true_or->ds,not_eq_true'->ek,or_false->fA,not_and->hD,eq_false_iff->hE,not_eq_true->hK,and_self->hT,and_eq_false_iff->iI,not_eq_false'->iR,false_ne_true->iS,noConfusion->jm
open Decidable renaming decide->b5
open Go renaming maxLen->et,TypeId->fI,Program->gu,World->ix,MemPlace->k5,undef->kp,mapM_some_length->kB
open Go.IntKind renaming i64->eL,u8->iB,signed->j3,bits->k6
open Go.Lib renaming decDigits->b8,itoa->c7,compareBytes->cc,decDigits_one->e3,decDigits_length->e6,trimPrefix->en,parseUintM->gv,hasPrefix->h8,cut->hQ,parseIntB->hW,index->h',nDigits_small->j9,parseUintB->kn,countFrom->ks
open Go.Op renaming bytesLess->cf
open Go.Proofs.YtegmpdmpgmpiaaaGreatDoor renaming obS->dc,bfT->ed,tnC->fi,dtE->jn,cut->j',gdE->k9,baT->kb
open Inhabited renaming default->ay
open Int renaming ofNat_lt->bS,tmod_eq_emod_of_nonneg->ct,tdiv_eq_ediv_of_nonneg->cB,eq_ofNat_of_zero_le->ga,natCast_add->gn,mul_add->hO,not_lt->j2,mul_nonneg->kf
open List renaming length_cons->c6,range->cb,length_append->cd,append_assoc->cA,all_eq_true->db,find?_range_eq_some->dw,getElem?_drop->dT,mem_append->dU,all_cons->d',length->e4,getElem?_append_right->e5,length_drop->e7,getElem_of_mem->e9,count_eq_zero->ea,append_cancel_left->ef,cons_append->eo,length_nil->ew,replicate->fm,find?_eq_none->fp,getElem?_append_left->fx,getElem_append_left->fy,nil_append->gb,isPrefixOf->gf,take_append_drop->gk,mem_cons->g',mem_singleton->h7,getElem_take->hC,length_take->hI,any_eq_true->hJ,not_lt->hL,length_set->hM,append_nil->hN,drop_drop->hP,getElem_append_right->hR,drop_eq_getElem_cons->hS,set_set->hX,getElem_replicate->hY,all_nil->hZ,cons_lt_cons_iff->ir,count_cons_self->iN,count_append->j1,take_length->j4,le_antisymm->j5,getElem_mem->j6,ext_getElem->j7,drop_length->j8,mem_range->k7,lt_irrefl->k8,lt_trans->ke
open List.cons renaming inj->ej
open Nat renaming le_refl->cw,lt_or_ge->e8,zero_le->eg,pow_succ->fa,add_assoc->fB,pow_le_pow_right->gr,lt_of_lt_of_le->h9,sub_self->hG,mod_lt->iZ,add_sub_cancel->j0,mul_le_mul->kc,add_zero->kA
open Option renaming isSome_some->bo,some->bN,getD_some->bR,map_none->eu,map_some->hH,none->hV
open UInt8 renaming toNat_ofNat'->dx,toNat_inj->ev,ofNat->fu
set_option linter.defProp false
set_option linter.unusedSimpArgs false
set_option linter.unusedVariables false
open Go.IntKind (i64 u64)
noncomputable section
namespace Go.Proofs.YtegmpdmpgmpiaaaGreatDoor
open Go Go.RowKit Go.ChangeShapes Go.WideShapes Go.ChangeAt
inductive Sh where
 |bool|int (k:IntKind)|str
 |sl (sz:Nat) (agg:Bool) (e:Sh)
 |st (b:Sh)
 |nil|cons (a b:Sh)
def Yy:Sh->List AV->Prop
 |.bool,cs=>∃b,cs=[.bool b]
 |.int k,cs=>∃n,cs=[.int k n]/\(Lit.int k n).wf=b9
 |.str,cs=>∃l:L8,cs=[.str l]/\l.length<=et
 |.sl sz agg e,cs=>∃els:List AV,cs=[.sl sz els]/\els.length<=et/\∀el∈els,el.isAgg=agg/\Yy e el.cells
 |.st b,cs=>Yy b cs
 |.nil,cs=>cs=[]
 |.cons a b,cs=>∃l r,cs=l++r/\Yy a l/\Yy b r
def AAy(P:gu)(t:fI):Bool :=match P.underlying t with
 |some .string=>b9
 |_=>b'
def rJ(P:gu)(t:fI):Bool :=match P.underlying t with
 |some .bool=>b9
 |_=>b'
def AAz(P:gu)(t:fI)(k:IntKind):Bool :=match P.underlying t with
 |some (.int j)=>j==k
 |_=>b'
def ALJ(P:gu)(t:fI):Option TypeId :=match P.underlying t with
 |some (.slice e)=>bN e
 |_=>hV
def AAx(P:gu)(t:fI):Option (List Field) :=match P.underlying t with
 |some (.struct j)=>bN j.toList
 |_=>hV
def Rw(P:gu):Sh->fI⊕(List Field×Nat×Nat)->Bool
 |.bool,.inl t=>rJ P t
 |.int k,.inl t=>AAz P t k
 |.str,.inl t=>AAy P t
 | .sl sz agg e,.inl t=>match ALJ P t with
  |some el=>P.cellsOf el==sz&&(b5 (1<=sz)&&((agg||sz==1)&&Rw P e (.inl el)))
  |none=>b'
 | .st b,.inl t=>match AAx P t with
  |some C=>Rw P b (.inr (C,0,P.cellsOf t))
  |none=>b'
 |.nil,.inr ([],off,j)=>off==j
 |.cons a b,.inr (f::r,off,j)=>f.offset==off&&(Rw P a (.inl f.type)&&Rw P b (.inr (r,off+P.cellsOf f.type,j)))
 |_,_=>b'
def lM(w:ix):List Value->List AV->Prop
 |[],[]=>True
 |v::vs,a::j=>VR C' w v a/\a.atom=b9/\lM w vs j
 |_,_=>False
def lM.append{w:ix}:∀{I C:List Value} {a1 a2:List AV},lM w I a1->lM w C a2->lM w (I++C) (a1++a2)
 |[],_,[],_,_,h2=>h2
 |v::vs,_,a::J,_,j,h2=>⟨j.1,j.2.1,lM.append j.2.2 h2⟩
 |[],_,_::_,_,j,_=>j.elim
 |_::_,_,[],_,j,_=>j.elim
def lM.len{w:ix}:∀{l:List Value} {a:List AV},lM w l a->l.length=a.length
 |[],[],_=>rfl
 |v::vs,a::j,h=>by simp[lM.len h.2.2]
 |[],_::_,h=>h.elim
 |_::_,[],h=>h.elim
def lM.get{w:ix}:∀{l:List Value} {a:List AV},lM w l a->∀j,j<a.length->VR C' w (l.getD j kp) (a.getD j .any)/\(a.getD j .any).atom=b9
 |[],[],_,j,C=>by simp at C
 |v::vs,a::I,h,0,_=>⟨h.1,h.2.1⟩
 |v::vs,a::I,h,j+1,C=>by simpa using lM.get h.2.2 j (by simpa using C)
 |[],_::_,h,_,_=>h.elim
 |_::_,[],h,_,_=>h.elim
def cJ{a:AV}(h:a.atom=b9):a.cells=[a]/\a.isAgg=b':=by
 cases a<;>simp[AV.atom]at h<;>exact⟨rfl,rfl⟩
def lM.atoms{w:ix}:∀{l:List Value} {a:List AV},lM w l a->a.all AV.atom=b9
 |[],[],_=>rfl
 |v::vs,a::j,h=>by simp[h.2.1,lM.atoms h.2.2]
 |[],_::_,h=>h.elim
 |_::_,[],h=>h.elim
section
variable {H:Type}{enc:fI×Value->H}{P:gu}{w:ix}{spare:Nat->Bool}{held:Bool}
def aP{f:Nat->Option Value}{n:Nat}{l:List Value}(h:(cb n).mapM f=bN l){i:Nat}(hi:i<n):f i=l[i]? /\ l.length=n:=by
 have j:=kB h;simp only[List.length_range]at j;exact⟨mapM_some_get h i i (by simp[hi]),j⟩
def Po:∀(sh:Sh) (q:fI⊕(List Field×Nat×Nat)) (cs:List Value),Rw P sh q=b9 ->
  (match q with
   |.inl t=>∃n x,DataW.trod enc P w 0 spare held n t cs=bN x
   |.inr (fs,off,R)=>off<=R/\cs.length=R/\∀f,f∈fs->∃n x,DataW.trod enc P w 0 spare held n f.type ((cs.drop f.offset).take (P.cellsOf f.type))=bN x) ->
  ∃az,Yy sh az/\lM w (match q with |.inl _=>cs |.inr (_,off,_)=>cs.drop off) az
 | .bool,.inl t,cs,hs,⟨n,x,h⟩=>by
  simp only[Rw,rJ]at hs;split at hs
  .rename_i ht;obtain⟨b,rfl,_⟩:=DataW.trod_bool ht h;exact⟨[.bool b],⟨b,rfl⟩,.bool,rfl,trivial⟩
  .cases hs
 | .int k,.inl t,cs,hs,⟨n,x,h⟩=>by
  simp only[Rw,AAz]at hs;split at hs
  .rename_i k' ht;have e:k'=k:=by simpa using hs
   subst e;obtain⟨m,rfl,_,hw⟩:=DataW.trod_int ht h;exact⟨[.int k' m],⟨m,rfl,hw⟩,.int,rfl,trivial⟩
  .cases hs
 | .str,.inl t,cs,hs,⟨n,x,h⟩=>by
  simp only[Rw,AAy]at hs;split at hs
  .rename_i ht;obtain⟨s,rfl,_,hw⟩:=DataW.trod_string ht h;have e:s=⟨s.data.toList.toArray⟩:=by cases s;simp
   refine⟨[.str s.data.toList],⟨_,rfl,hw⟩,?_,rfl,trivial⟩;have:VR C' w (.string ⟨s.data.toList.toArray⟩) (.str s.data.toList):=.str
   rwa [←e]at this
  .cases hs
 | .st b,.inl t,cs,hs,⟨n,x,h⟩=>by
  simp only[Rw]at hs;split at hs
  .rename_i fs ht;simp only[AAx]at ht;split at ht<;>try(cases ht;done)
   rename_i be hu;obtain rfl:=Option.some.inj ht;obtain⟨xs,m,rfl,_,hl,hn,hf⟩:=DataW.trod_struct hu h;have:=Po b (.inr (be.toList,0,P.cellsOf t)) cs hs ⟨eg _,hl,fun f b3=>?_⟩
   .simpa[Yy]using this
   .obtain⟨i,hi,he⟩:=e9 b3
    have I:be[i]? = bN f:=by
     rw[←Array.getElem?_toList,geE hi,he]
    have h2:=hf i f I;have h3:i<xs.length:=by rw[hn];simpa using hi
    rw[geE h3]at h2;exact⟨m,_,h2⟩
  .cases hs
 | .nil,.inr ([],off,R),cs,hs,⟨h0,I,h2⟩=>by
  simp only[Rw,beq_iff_eq]at hs;refine⟨[],rfl,?_⟩;show lM w (cs.drop off) [];rw[List.drop_eq_nil_of_le n'];trivial
 | .cons a b,.inr (f::r,off,R),cs,hs,⟨h0,I,h2⟩=>by
  simp only[Rw,kb,beq_iff_eq]at hs;obtain⟨ho,ha,hb⟩:=hs;obtain⟨b7,f1,v1⟩:=Po a (.inl f.type) _ ha (h2 f p')
  by_cases hc:off+P.cellsOf f.type<=R
  .obtain⟨b6,f2,v2⟩:=Po b (.inr (r,off+P.cellsOf f.type,R)) cs hb ⟨hc,I,fun g hg=>h2 g (by simp[hg])⟩;refine⟨b7++b6,⟨_,_,rfl,f1,f2⟩,?_⟩
   have e:cs.drop off=(cs.drop f.offset).take (P.cellsOf f.type)++cs.drop (off+P.cellsOf f.type):=by
    rw[ho,←hP,gk]
   show lM w (cs.drop off) _;rw[e];exact v1.append v2
  .exfalso
   have key:∀(sh:Sh) (fs:List Field) (o:Nat),Rw P sh (.inr (fs,o,R))=b9->o<=R:=by
    intro sh fs
    induction fs generalizing sh with
    |nil=>intro o h;cases sh<;>simp[Rw]at h;omega
    | cons f fs ih=>
     intro o h;cases sh<;>simp[Rw]at h
     have:=ih _ _ h.2.2;omega
   exact hc (key _ _ _ hb)
 | .sl sz agg e,.inl t,cs,hs,⟨n,x,h⟩=>by
  simp only[Rw]at hs;split at hs
  .rename_i el U;simp only[ALJ]at U;split at U<;>try(cases U;done)
   rename_i bh hu;obtain rfl:=Option.some.inj U;simp only[kb,beq_iff_eq,jn,Bool.or_eq_true]at hs;obtain⟨bs,au,b4,b0⟩:=hs;rcases DataW.trod_slice hu h with⟨rfl,_⟩|⟨a,len,cap,elems,rest,m,rfl,rfl,_,_,b2,cl,U,a7,_,_⟩
   .refine⟨[.sl sz []],⟨[],rfl,p',p'⟩,?_,rfl,trivial⟩;exact .sl 0 0 (fun _ _=>kp) rfl (cw _) au (fun c=>by simp at c) (fun i hi=>by simp at hi) (fun i j hi=>by simp at hi) (fun i j hi=>by simp at hi)
   .have a6:∀i,i<len->∃J y,w.cells? 0 (a.add (i*sz)) sz=bN J/\DataW.trod enc P w 0 spare held m bh J=bN y:=by
     intro i hi;have:=a7 i hi;rw[geE n',Option.bind_eq_some_iff,bs]at this;obtain⟨J,c1,c2⟩:=this;exact⟨J,_,c1,c2⟩
    have ba:∀i,∃J az,i<len->w.cells? 0 (a.add (i*sz)) sz=bN J/\Yy e az/\lM w J az:=by
     intro i
     by_cases hi:i<len
     .obtain⟨J,y,c1,c2⟩:=a6 i hi;obtain⟨az,f1,v1⟩:=Po e (.inl bh) J b0 ⟨m,y,c2⟩;exact⟨J,az,fun _=>⟨c1,f1,v1⟩⟩
     .exact⟨[],[],fun c=>absurd c hi⟩
    obtain⟨rd,b1⟩:=Classical.axiomOfChoice ba;obtain⟨av,aj⟩:=Classical.axiomOfChoice b1
    have aa:∀i,i<len->(rd i).length=sz/\∀j,j<sz->w.cell? ((a.add (i*sz)).add j)=bN ((rd i).getD j kp):=by
     intro i hi;have I:=(aj i hi).1;unfold World.cells? at I;split at I
     .rename_i hb;refine⟨?_,fun j hj=>?_⟩
      .have:=kB I;simpa using this
      .obtain⟨h2,h3⟩:=aP I hj;rw[h2,k9,geE n'];rfl
     .cases I
    have ad:0<len->a=⟨a.block,a.off,hV⟩:=by
     intro h0;have I:=(aa 0 h0).2 0 n';simp only[Nat.zero_mul,Addr.add,if_true]at I;unfold World.cell? at I;split at I
     .split at I
      .cases I
      .rename_i bz;obtain⟨b,o,s⟩:=a;cases s
       .rfl
       .simp at bz
     .cases I
    let ab:Nat->AV:=fun i=>if agg=b9 then .agg (av i)else(av i).getD 0 .any
    have ae:∀i,i<len->(ab i).cells=av i/\(ab i).isAgg=agg/\(av i).length=sz:=by
     intro i hi;obtain⟨_,f1,v1⟩:=aj i hi;have hl:(av i).length=sz:=by rw[←v1.len];exact(aa i hi).1
     by_cases hg:agg=b9
     .simp only[ab];rw[if_pos hg];exact⟨rfl,hg.symm,hl⟩
     .have I:sz=1:=by
       rcases b4 with c|c
       .exact absurd c hg
       .exact c
      simp only[ab];rw[if_neg hg]
      match hA:av i,hl with
      | [y],_=>
       have bb:=v1.atoms;rw[hA]at bb;have:=cJ (a:=y) (by simpa using bb);exact⟨this.1,by simpa using this.2.trans (by cases agg<;>simp_all),by simp[I]⟩
      |[],hl=>simp at hl;omega
      |_::_::_,hl=>simp at hl;omega
    refine⟨[.sl sz ((cb len).map ab)],⟨_,rfl,t',fun el U=>?_⟩,?_,rfl,trivial⟩
    .obtain⟨i,hi,rfl⟩:=List.mem_map.1 U;have C:i<len:=by simpa using hi
     obtain⟨c1,c2,_⟩:=ae i C;exact⟨c2,by rw[c1];exact(aj i C).2.1⟩
    .have a8:∀i,i<len->((cb len).map ab).getD i .any=ab i:=by
      intro i hi;simp[k9,List.getElem?_map,hi]
     refine .sl a.block a.off (fun i j=>(rd i).getD j kp) p' b2 au (fun c=>⟨by rw[←ad (by simpa using c)],fun c=>c⟩) (fun i hi=>?_) (fun i j hi hj=>?_) (fun i j hi hj=>?_)
     .have C:i<len:=by simpa using hi
      rw[a8 i C];obtain⟨c1,_,c3⟩:=ae i C;refine⟨by rw[c1,c3],?_⟩;unfold AV.atoms;rw[c1];exact(aj i C).2.2.atoms
     .have C:i<len:=by simpa using hi
      have I:=(aa i C).2 j hj;have hs:=ad n'
      have:((a.add (i*sz)).add j)=⟨a.block,a.off+(i*sz+j),hV⟩:=by
       rw[hs];unfold Addr.add
       by_cases e1:i*sz=0<;>by_cases e2:j=0<;>simp[e1,e2]
       omega
      rw[←this];exact I
     .have C:i<len:=by simpa using hi
      rw[a8 i C];obtain⟨c1,_,c3⟩:=ae i C;rw[c1];exact((aj i C).2.2.get j n').1
  .cases hs
 |.bool,.inr _,_,hs,_=>by simp[Rw]at hs
 |.int _,.inr _,_,hs,_=>by simp[Rw]at hs
 |.str,.inr _,_,hs,_=>by simp[Rw]at hs
 |.sl _ _ _,.inr _,_,hs,_=>by simp[Rw]at hs
 |.st _,.inr _,_,hs,_=>by simp[Rw]at hs
 |.nil,.inl _,_,hs,_=>by simp[Rw]at hs
 |.cons _ _,.inl _,_,hs,_=>by simp[Rw]at hs
 |.nil,.inr (_::_,_,_),_,hs,_=>by simp[Rw]at hs
 |.cons _ _,.inr ([],_,_),_,hs,_=>by simp[Rw]at hs
def af:Sh->Bool
 |.st _=>b9
 |_=>b'
def ADX{r:Reach}{b0:Nat}{t:fI}{v:Value}{d:DataW H}{ps:List k5}{sh:Sh}(hs:Rw P sh (.inl t)=b9)(C:Value.okWide P w r b0 t v)(h:DataW.Trod enc P w 0 spare held t v d ps):
  ∃a:AV,Yy sh a.cells/\a.isAgg=af sh/\VR C' w v a:=by
 obtain⟨n,hn⟩:=h;obtain⟨U,f1,v1⟩:=Po sh (.inl t) _ hs ⟨n,_,hn⟩
 have one:af sh=b'->v.cells = #[v]->∃a:AV,Yy sh a.cells/\a.isAgg=af sh/\VR C' w v a:=by
  intro ht hv;rw[hv]at v1
  match U,v1 with
  | [a],v1=>
   obtain⟨c1,c2⟩:=cJ v1.2.1;exact⟨a,by rw[c1];exact f1,by rw[c2,ht],v1.1⟩
 cases sh
 case bool=>
  refine one rfl ?_;simp only[Rw,rJ]at hs;split at hs<;>try(cases hs;done)
  rename_i hu;obtain⟨b,rfl⟩:=okWide_bool hu C;rfl
 case int k=>
  refine one rfl ?_;simp only[Rw,AAz]at hs;split at hs<;>try(cases hs;done)
  rename_i hu;obtain⟨b,rfl⟩:=okWide_int hu C;rfl
 case str=>
  refine one rfl ?_;simp only[Rw,AAy]at hs;split at hs<;>try(cases hs;done)
  rename_i hu;obtain⟨b,rfl⟩:=okWide_string hu C;rfl
 case sl sz agg e=>
  refine one rfl ?_;simp only[Rw]at hs;split at hs<;>try(cases hs;done)
  rename_i el J;simp only[ALJ]at J;split at J<;>try(cases J;done)
  rename_i hu;obtain⟨b,l,c,rfl⟩:=okWide_slice hu C;rfl
 case st b=>
  simp only[Rw]at hs;split at hs<;>try(cases hs;done)
  rename_i fs I;simp only[AAx]at I;split at I<;>try(cases I;done)
  rename_i hu;obtain⟨cs,rfl,_⟩:=okWide_struct hu C;refine⟨.agg U,f1,rfl,.agg ?_ (fun j R=>(v1.get j R).2) fun j R=>?_⟩
  .have:=v1.len;simpa[Value.cells]using this
  .have:=(v1.get j R).1
   rwa [show(Value.agg cs).cells.toList.getD j kp=cs.getD j kp by simp[Value.cells,k9,agD]]at this
 case nil=>simp[Rw]at hs
 case cons=>simp[Rw]at hs
end
def QY(n:Int):Prop:=-9223372036854775808<=n/\n<=9223372036854775807
def AKJ{n:Int}(h:(Lit.int .i64 n).wf=b9):QY n:=by
 simp[Lit.wf,IntKind.min,IntKind.max,j3,k6]at h;unfold QY;omega
variable{a:AV}
def AMp{b:AV}(j:a.cells=b.cells)(h2:a.isAgg=b.isAgg):a=b:=by
 cases a<;>cases b<;>simp_all [AV.cells,AV.isAgg]
structure Ty(α:Type)where
 sh:Sh
 f:α->AV
 wf:α->Prop
 top:∀x,(f x).isAgg=af sh
 fits:∀cs,Yy sh cs->∃x,cs=(f x).cells/\wf x
variable{α:Type}
def Ty.of(T:Ty α)(h:Yy T.sh a.cells)(j:a.isAgg=af T.sh):∃x,a=T.f x/\T.wf x:=by
 obtain⟨x,e,hw⟩:=T.fits _ h;exact⟨x,AMp e (by rw[j,T.top]),hw⟩
def Ml:Ty Int:=⟨.int .i64,fun n=>.int .i64 n,QY,fun _=>rfl,fun cs ⟨n,e,h⟩=>⟨n,e,AKJ h⟩⟩
def qH:Ty Bool:=⟨.bool,.bool,fun _=>True,fun _=>rfl,fun cs ⟨n,e⟩=>⟨n,e,trivial⟩⟩
def PB:Ty L8:=⟨.str,.str,fun l=>l.length<=et,fun _=>rfl,fun cs ⟨n,e,h⟩=>⟨n,e,h⟩⟩
def pM{α:Type}(T:Ty α):∀els:List AV,(∀el∈els,el.isAgg=af T.sh/\Yy T.sh el.cells)->∃xs:List α,els=xs.map T.f/\∀x∈xs,T.wf x
 |[],_=>⟨[],rfl,p'⟩
 | a::r,h=>by
  obtain⟨x,e,hw⟩:=T.of (h a p').2 (h a p').1;obtain⟨xs,I,j⟩:=pM T r fun el C=>h el (by simp[C])
  exact⟨x::xs,by simp[e,I],by simpa using⟨hw,j⟩⟩
def wF(sz:Nat)(T:Ty α):Ty (List α):=⟨.sl sz (af T.sh) T.sh,fun xs=>.sl sz (xs.map T.f),fun xs=>xs.length<=et/\∀x∈xs,T.wf x,fun _=>rfl,fun cs ⟨els,e,j,h⟩=>by
 obtain⟨xs,C,hw⟩:=pM T els h;exact⟨xs,by rw[e,C];rfl,by rw[C]at j;simpa using j,hw⟩⟩
variable{w:ix}
def ADW(T:Ty α){H:Type}{enc:fI×Value->H}{P:gu}{spare:Nat->Bool}{held:Bool}{r:Reach}{C:Nat}{t:fI}{v:Value}{d:DataW H}{ps:List k5}
  (hs:Rw P T.sh (.inl t)=b9) (j:Value.okWide P w r C t v) (h:DataW.Trod enc P w 0 spare held t v d ps):∃x,VR C' w v (T.f x)/\T.wf x:=by
 obtain⟨a,f1,f2,f3⟩:=ADX hs j h;obtain⟨x,e,hw⟩:=T.of f1 f2;exact⟨x,e▸f3,hw⟩
def AD.sameAt{w':ix}(h:AD C' w w'){p:k5}(j:p.block<w.heap.size):w.sameAt w' p:=by
 have hb:=h.block p.block j fun c=>c
 cases p with
 |cell b off=>simp only[MemPlace.block]at hb;simp only[World.sameAt,World.cell?,hb]
 |map b=>simp only[MemPlace.block]at hb;simp only[World.sameAt,hb]
end Go.Proofs.YtegmpdmpgmpiaaaGreatDoor
namespace Go.Proofs.YtegmpdmpgmpiaaaGreatDoor
open Go Go.RowKit
variable{α:Type}
def YL{c:Bool}[inst:Decidable (c=b9)](a b:α):@ite α (c=b9) inst a b=cond c a b:=by cases c<;>simp
def Aa(i n:Nat):AS (i:Int) n=b5 (i<n):=by
 simp only[AS];by_cases h:i<n<;>simp[h]<;>omega
def Dz{i:Int}{n:Nat}(j:0<=i)(h2:i<n):AS i n=b9:=by simp[AS,j,h2]
variable{n:Nat}
def Z2{i:Int}(h:0<=i/\i<n):AS i n=true:=Dz h.1 h.2
def Gb{a b:Int}(C:0<=a)(h2:a<=b)(j:b<=n):Ja a b n=b9:=by simp[Ja,C,h2,j]
def Z3{a b:Int}{n:Nat}(h:0<=a/\a<=b/\b<=n):Ja a b n=true:=Gb h.1 h.2.1 h.2.2
def Oa{n:Int}(h:n≠0):nz n=b9:=by simp[nz,h]
def VL{n:Int}(h:0<=n):TS n=b9:=by simp[TS,h]
def As{m n:Nat}(h:m+n<=9223372036854775807):CM m n=b9:=by simp[CM,h]
def Bl{n b:Nat}(h:n*b<=140737488355328):Dg n b=b9:=by simp[Dg,h]
def tV{n:Int}{b:Nat}(C:0<=n)(h2:1<=b)(j:n*b<=281474976710656):xN n b=b9:=by simp[xN,C,h2,j]
def AW{i:Nat}(h:i<9223372036854775807):eL.wrap ((i:Int)+1)=((i+1:Nat):Int):=by
 rw[Z1 n'];simp
def nF:¬b'=true:=iS
def Z4(i:Nat)(h:i<9223372036854775807:=by omega):eL.wrap ((i:Int)+1)=((i+1:Nat):Int):=AW h
def si(n:Int):QY (eL.wrap n):=by
 unfold QY IntKind.wrap k6;simp[j3];omega
def Cl{α:Type}{xs:List α}{i:Nat}(h:i<xs.length)(d:α):xs.getD i d=xs[i]:=by
 simp[k9,geE h]
def Gw{ρ:Type}{step:Int->Option (Int⊕ρ)}(p:Nat->Bool)(n:Nat)(q:Bool){yes no:ρ}(R:q=b9 ↔ ∀i,i<n->p i=b9)(hs:∀i:Nat,i<n->step (i:Int)=bN (if p i=b9 then .inl ((i+1:Nat):Int)else .inr no))
  (he:step (n:Int)=bN (.inr yes)):AE step 0=bN (if q=b9 then yes else no):=by
 have I:∀m i:Nat,i+m=n->(∀j,i<=j->j<n->p j=b9)->AE step (i:Int)=bN yes:=by
  intro m
  induction m with
  | zero=>
   intro i hi _;obtain rfl:i=n:=n'
   exact Ai he
  | succ m J=>
   intro i hi h;rw[Aq (by rw[hs i n',if_pos (h i (cw _) n')])];exact J (i+1) n' fun j h1 h2=>h j n' h2
 have bad:∀m i:Nat,i+m=n->(∃j,i<=j/\j<n/\p j=b')->AE step (i:Int)=bN no:=by
  intro m
  induction m with
  |zero=>rintro i hi ⟨j,h1,h2,_⟩;omega
  | succ m J=>
   rintro i hi ⟨j,h1,h2,U⟩
   by_cases C:p i=b9
   .rw[Aq (by rw[hs i n',if_pos C])];refine J (i+1) n' ⟨j,?_,h2,U⟩;rcases e8 i j with c|c
    .omega
    .obtain rfl:i=j:=n'
     rw[U]at C;cases C
   .exact Ai (by rw[hs i n',if_neg C])
 cases q with
 |true=>exact I n 0 n' fun j _ h=>R.1 rfl j h
 | false=>
  refine bad n 0 n' ?_;refine Classical.byContradiction fun hc=>?_
  have:b'=true:=R.2 fun i hi=>by
   cases C:p i with
   |true=>rfl
   |false=>exact absurd ⟨i,eg _,hi,C⟩ hc
  cases this
def MK{σ ρ:Type}{step:σ×Int->Option ((σ×Int)⊕ρ)}(f:Nat->σ)(n:Nat){r:ρ}(hs:∀i:Nat,i<n->step (f i,(i:Int))=bN (.inl (f (i+1),((i+1:Nat):Int))))
  (j:step (f n,(n:Int))=bN (.inr r)):AE step (f 0,0)=bN r:=by
 have:=Mv (step:=step) (fun i=>(f i,(i:Int))) n (fun i hi=>hs i hi) j;exact this
def DN{σ ρ:Type}{step:σ->Option (σ⊕ρ)}(j:σ->Prop)(Q:ρ->Prop)(μ:σ->Nat)
  (h:∀s,j s->(∃s',step s=bN (.inl s')/\j s'/\μ s'<μ s)\/∃r,step s=bN (.inr r)/\Q r) {s:σ} (hs:j s):∃y,AE step s=bN y/\Q y:=by
 generalize hm:μ s=m
 induction m using Nat.strongRecOn generalizing s with
 | _ m C=>
  rcases h s hs with⟨s',e,hi,J⟩|⟨r,e,I⟩
  .rw[Aq e];exact C _ n' hi rfl
  .exact⟨r,Ai e,I⟩
def Rn{σ ρ:Type}{step step':σ->Option (σ⊕ρ)}(j:σ->Prop)(h:∀s,j s->step s=step' s)(R:∀s s',j s->step s=bN (.inl s')->j s'){s:σ}(hs:j s):AE step s=AE step' s:=by
 have one:∀n s,j s->Km step n s=Km step' n s:=by
  intro n
  induction n with
  |zero=>intro s _;rfl
  | succ n J=>
   intro s hs;simp only[Km,←h s hs];cases C:step s with
   |none=>rfl
   | some o=>
    cases o with
    |inl s'=>exact J s' (R s s' hs C)
    |inr r=>rfl
 apply Option.ext;intro r;constructor
 .intro e;obtain⟨n,I⟩:=Jf e;exact Mw (n:=n) (by rw[←one n s hs];exact I)
 .intro e;obtain⟨n,I⟩:=Jf e;exact Mw (n:=n) (by rw[one n s hs];exact I)
def Hn{α:Type}(f:α->Int->α)(c:Nat):List α->Int->List α
 |[],_=>[]
 |x::r,k=>f x k::Hn f c r (k+c)
def He{α:Type}(f:α->Int->α)(c:Nat):∀(a:List α) (k:Int),(Hn f c a k).length=a.length
 |[],_=>rfl
 |x::r,k=>by simp[Hn,He f c r]
def iX{α:Type}(f:α->Int->α)(c:Nat)(d:α):∀(a:List α) (k:Int) (i:Nat),i<a.length->(Hn f c a k).getD i d=f (a.getD i d) (k+c*i)
 |[],_,_,h=>by simp at h
 |x::r,k,0,_=>by simp[Hn]
 | x::r,k,i+1,h=>by
  simp only[Hn,List.getD_cons_succ];rw[iX f c d r (k+c) i (by simpa using h)]
  congr 1
  rw[gn,hO];omega
def Vk{α:Type}(f:α->Int->α)(c:Nat):∀(a b:List α) (k:Int),Hn f c (a++b) k=Hn f c a k++Hn f c b (k+c*a.length)
 |[],b,k=>by simp[Hn]
 | x::r,b,k=>by
  simp only[eo,Hn,Vk f c r b,c6]
  congr 3
  rw[gn,hO];omega
def UO{α:Type}[Inhabited α](f:α->Int->α)(c:Nat){step:List α×Int×Int->Option ((List α×Int×Int)⊕(List α×Int))}(R:c<=1000)
  (hs:∀(l:List α) (k:Int) (i:Nat),i<l.length->l.length<=1099511627776->1<=k->k<=2251799813685248->step (l,k,(i:Int))=bN (.inl (l.set i (f (l.getD i ay) k),k+c,((i+1:Nat):Int))))
  (I:∀(l:List α) (k:Int),step (l,k,(l.length:Int))=bN (.inr (l,k))) {a:List α} (C:a.length<=1099511627776) {k0:Int} (h0:1<=k0) (h1:k0<=1125899906842624):AE step (a,k0,0)=bN (Hn f c a k0,k0+(c:Int)*a.length):=by
 have hlen:∀i,i<=a.length->(Hn f c (a.take i) k0++a.drop i).length=a.length:=by
  intro i hi;simp[He];omega
 have:=Mv (step:=step) (fun i=>(Hn f c (a.take i) k0++a.drop i,k0+(c:Int)*i,(i:Int))) a.length (r:=(Hn f c a k0,k0+(c:Int)*a.length)) (fun i hi=>by
  have J:c*i<=1000*1099511627776:=kc R n'
  have hk:(0:Int)<=(c:Int)*i/\(c:Int)*i<=1099511627776000:=by
   constructor
   .exact kf n' n'
   .have:((c*i:Nat):Int)<=1099511627776000:=n'
    simpa using this
  rw[hs _ _ i (by rw[hlen i n'];exact hi) (by rw[hlen i n'];exact C) n' n'];have j:(Hn f c (a.take i) k0).length=i:=by rw[He,hI];omega
  have e1:(Hn f c (a.take i) k0++a.drop i).getD i ay=a[i]:=by
   rw[k9,e5 n',j,hG,dT,kA,geE hi];rfl
  have U:(Hn f c (a.take i) k0++a.drop i).set i (f a[i] (k0+(c:Int)*i))=Hn f c (a.take (i+1)) k0++a.drop (i+1):=by
   rw[List.take_succ_eq_append_getElem hi,Vk,hS hi,List.set_append_right _ _ n',j,hG,hI,Nat.min_eq_left (Nat.le_of_lt hi)];simp only[Hn,List.set_cons_zero,cA,eo,gb]
  rw[e1,U]
  congr 4
  rw[gn,hO];omega) (by
  rw[j4,j8,hN];have:=I (Hn f c a k0) (k0+(c:Int)*a.length)
  rwa [He]at this)
 simpa[Hn]using this
def Uc{α:Type}[Inhabited α]{f:α->Int->α}{c:Nat}{a:List α}{k0:Int}{step:Int×Int->Option ((Int×Int)⊕(Int⊕Int))}(I:c<=1000)
  (hs:∀(x:α) (k:Int) (i:Nat),i<a.length->(Hn f c a k0).getD i ay=f x k->1<=k->k<=2251799813685248->step (k,(i:Int))=bN (.inl (k+c,((i+1:Nat):Int))))
  (j:∀k:Int,step (k,(a.length:Int))=bN (.inr (.inl k))) (J:a.length<=1099511627776) (h0:1<=k0) (U:k0<=1125899906842624):AE step (k0,0)=bN (.inl (k0+(c:Int)*a.length)):=by
 have:=Mv (step:=step) (fun i=>(k0+(c:Int)*i,(i:Int))) a.length (r:=.inl (k0+(c:Int)*a.length)) (fun i hi=>by
  have C:c*i<=1000*1099511627776:=kc I n'
  have R:(0:Int)<=(c:Int)*i/\(c:Int)*i<=1099511627776000:=by
   constructor
   .exact kf n' n'
   .have:((c*i:Nat):Int)<=1099511627776000:=n'
    simpa using this
  rw[hs (a.getD i ay) _ i hi (iX f c ay a k0 i hi) n' n']
  congr 3
  rw[gn,hO];omega) (j _)
 simpa using this
def jZ[Inhabited α]{step:List α×Int->Option ((List α×Int)⊕List α)}(z:α){a:List α}(C:a.length<=1099511627776)
  (hs:∀(out:List α) (i:Nat),out.length=a.length->i<a.length->step (out,(i:Int))=bN (.inl (out.set i (a.getD i ay),((i+1:Nat):Int))))
  (I:∀out:List α,step (out,(a.length:Int))=bN (.inr out)):AE step (fm a.length z,0)=bN a:=by
 have:=MK (step:=step) (fun i=>a.take i++fm (a.length-i) z) a.length (r:=a)
  (fun i hi=>by
   have C:(a.take i++fm (a.length-i) z).length=a.length:=t'
   rw[hs _ i C hi]
   congr 3
   refine j7 t' fun j R h2=>?_
   simp only[List.getElem_set,Cl hi]
   by_cases e:i=j
   .subst e;rw[if_pos rfl,fy t',hC]
   .rw[if_neg e]
    by_cases J:j<i
    .rw[fy t',fy t',hC,hC]
    .rw[hR t',hR t',hY,hY])
  (by rw[j4,hG,List.replicate_zero,hN];exact I a)
 simp only[List.take_zero,gb,Nat.sub_zero]at this;exact this
def SP[BEq α][LawfulBEq α][Inhabited α]{a b:List α}(h:a.length=b.length):(∀i,i<a.length->(a.getD i ay==b.getD i ay)=b9) ↔ a=b:=by
 constructor
 .intro hi;refine j7 h fun i j h2=>?_
  have:=hi i j;simpa[k9,geE j,geE h2]using this
 .rintro rfl;simp
def Hu{α:Type}{xs:List α}{i:Nat}(h:i<xs.length)(d:α):xs.getD i d∈xs:=by
 rw[Cl h];exact j6 h
def RQ{p:Nat->Bool}(h:(cb n).all p=b9){i:Nat}(hi:i<n):p i=b9:=by
 simp only[db,k7]at h;exact h i hi
section
variable {H:Type}{enc:fI×Value->H}{P:gu}
def AGv(hl:laidOutB P=b9){t:fI}(hr:P.readableRec t=b9)(I:t<P.types.size){W W':ix}(hs:AD C' W W'){sp:Nat->Bool}{v:Value}{d:DataW H}{ps j:List k5}
  (h:DataW.Trod enc P W 0 (fun _=>b9) b9 t v d ps) (C:∀p∈ps,p∈j) (U:∀p∈j,p.block<W.heap.size) (J:∀p∈j,sp p.block=b9):DataW.Trod enc P W' 0 sp b9 t v d ps :=
 WideElems.Trod_stays hl hr I h (fun p R=>hs.sameAt (U p (C p R))) (fun p R=>J p (C p R))
end
theorem Dr(n a b:Int):Bu n a b=bN (b5 (a<=n)&&b5 (n<=b)):=id rfl
theorem FV(n a b:Int):EB n a b=bN (b5 (a<=n)&&b5 (n<=b)):=id rfl
variable{k:Int}
def fW(j:0<k)(C:k<=4503599627370496):∃l,BT k=bN l:=by
  obtain⟨y,I,J⟩:=DN (step:=Hh) (fun s=>0<=s.1/\s.1+s.2.length<=4503599627370496) (fun y=>y.length<=4503599627370496) (fun s=>s.1.toNat) (by
    rintro⟨k,out⟩ ⟨j,C⟩;simp only at j C
    by_cases h:0<k
    · left;have t1:k.tdiv 10=k/10:=cB j;simp only[Hh,h,decide_true,if_true,Oa (show(10:Int)≠0 by decide),AB,t1];rw[As (by simp only[c6,ew];omega),AB,Z1 (n:=k/10) n'];refine⟨_,rfl,⟨by show 0<=k/10;omega,?_⟩,by show(k/10).toNat<k.toNat;omega⟩;show k/10+((_++out).length:Int)<=_;simp only[cd,c6,ew];omega
    · right;exact⟨out,by simp[Hh,h],by show out.length<=_;omega⟩) (s:=(k,[])) ⟨by show 0<=k;omega,by show k+(([]:L8).length:Int)<=_;simp;omega⟩
  refine⟨[109]++y,?_⟩;unfold BT;have h2:¬ k<=0:=n'
  simp only[h2,decide_false,ed,if_false,I,dc];rw[As (by simp only[c6,ew];omega),AB]
def mt (k:Int):L8:=(BT k).getD []
def Jh(I:0<k)(C:k<=4503599627370496):BT k=bN (mt k):=by
  obtain⟨l,j⟩:=fW I C;unfold mt;rw[j];rfl
variable{a:List L8}{b:L8}
def kq{b:List L8}(h:a.length<=1099511627776):Fu a b=bN (b5 (a=b)):=by
  unfold Fu
  by_cases j:a.length=b.length
  · have J:((a.length:Int)==(b.length:Int))=b9:=by simp[j]
    rw[J]
    have:=Gw (step:=GB a b) (fun i=>a.getD i ay==b.getD i ay) a.length (b5 (a=b)) (yes:=.inl ()) (no:=.inr b')
      (by rw[jn];exact(SP j).symm)
      (fun i hi=>by
        have C:i<b.length:=n'
        simp only[GB,Aa,hi,C,decide_true,AB,bS,if_true,fi,(Z4 i)];cases(a.getD i ay==b.getD i ay)<;>rfl)
      (by simp[GB])
    simp only[bI,ed,if_false,this,dc]
    by_cases I:a=b<;>simp[I]
  · have J:((a.length:Int)==(b.length:Int))=b':=t'
    rw[J];have:a≠b:=fun c=>j (by rw[c])
    simp[this]
def mkS(x:L8)(k:Int):L8:=mt k
def XV(l:List L8)(k:Int)(i:Nat)(hi:i<l.length)(I:l.length<=1099511627776)(J:1<=k)(h2:k<=2251799813685248):
    EJ (l,k,(i:Int))=bN (.inl (l.set i (mkS (l.getD i ay) k),k+((1:Nat):Int),((i+1:Nat):Int))):=by
  have C:eL.wrap (k+1)=k+((1:Nat):Int):=by rw[Z1 n'];omega
  have j:BT (k)=bN (mt (k)):=Jh n' n';simp only[EJ,hM,Aa,hi,decide_true,AB,bS,if_true,fi,(Z4 i),hX,C,j,dc,mkS]
def aM(j:a.length<=1099511627776)(I:1<=k)(C:k<=1125899906842624):DX a k=bN (k+((1:Nat):Int)*a.length,Hn mkS 1 a k):=by
  unfold DX;rw[UO mkS 1 (step:=EJ) n' XV ?_ j I C]
  · simp[He,AB]
  · intro l k;simp[EJ]
def aw(J:a.length<=1099511627776){k0:Int}(U:1<=k0)(I:k0<=1125899906842624):Eh (Hn mkS 1 a k0) k0=bN (k0+((1:Nat):Int)*a.length):=by
  unfold Eh;rw[Uc (f:=mkS) (c:=1) (a:=a) (k0:=k0) n' ?_ ?_ J U I]
  · rfl
  · intro x k i hi R h1 h2;have C:eL.wrap (k+1)=k+((1:Nat):Int):=by rw[Z1 n'];omega
    have j:BT (k)=bN (mt (k)):=Jh n' n';simp only[GZ,He,Aa,hi,decide_true,AB,bS,if_true,fi,(Z4 i),R,C,j,dc,mkS,beq_self_eq_true,bI,ed,if_false]
  · intro k;simp[GZ,He]
def yJ(a b:Star):MC a b=bN (a==b):=by
  have hd:(a==b)=b5 (a=b):=by rw[cm];simp
  rw[hd];obtain⟨a0,a1,a2,a3,a4⟩:=a;obtain⟨b0,b1,b2,U,R⟩:=b;unfold MC;simp only[Star.mk.injEq]
  by_cases j:a0=b0
  rotate_left
  · simp[j]
  by_cases C:a1=b1
  rotate_left
  · simp[j,C]
  by_cases h2:a2=b2
  rotate_left
  · simp[j,C,h2]
  by_cases I:a3=U
  rotate_left
  · simp[j,C,h2,I]
  by_cases J:a4=R
  rotate_left
  · simp[j,C,h2,I,J]
  simp[j,C,h2,I,J]
variable{a:List Star}
def rZ{b:List Star}(h:a.length<=1099511627776):LI a b=bN (b5 (a=b)):=by
  unfold LI
  by_cases j:a.length=b.length
  · have J:((a.length:Int)==(b.length:Int))=b9:=by simp[j]
    rw[J]
    have:=Gw (step:=IV a b) (fun i=>a.getD i ay==b.getD i ay) a.length (b5 (a=b)) (yes:=.inl ()) (no:=.inr b')
      (by rw[jn];exact(SP j).symm)
      (fun i hi=>by
        have C:i<b.length:=n'
        simp only[IV,Aa,hi,C,decide_true,AB,bS,if_true,fi,(Z4 i),yJ,dc];cases(a.getD i ay==b.getD i ay)<;>rfl)
      (by simp[IV])
    simp only[bI,ed,if_false,this,dc]
    by_cases I:a=b<;>simp[I]
  · have J:((a.length:Int)==(b.length:Int))=b':=t'
    rw[J];have:a≠b:=fun c=>j (by rw[c])
    simp[this]
theorem wI(a:Star):NX a=bN a:=id rfl
def qM(h:a.length<=1099511627776):Gg a=bN a:=by
  unfold Gg;rw[tV n' n' n',AB,fi,jZ _ h]
  · rfl
  · intro out i j hi;simp only[Jz,Aa,j,hi,decide_true,AB,bS,if_true,fi,(Z4 i),wI,dc]
  · intro out;simp[Jz]
def SC(x:Star)(k:Int):Star:=⟨mt (k),k+1,k+1+1,k+1+1+1,k+1+1+1+1⟩
def aN(l:List Star)(k:Int)(i:Nat)(hi:i<l.length)(aa:l.length<=1099511627776)(h1:1<=k)(h2:k<=2251799813685248):
    Ew (l,k,(i:Int))=bN (.inl (l.set i (SC (l.getD i ay) k),k+((5:Nat):Int),((i+1:Nat):Int))):=by
  have U:eL.wrap (k+1)=k+1:=Z1 n';have R:eL.wrap (k+1+1)=k+1+1:=Z1 n';have J:eL.wrap (k+1+1+1)=k+1+1+1:=Z1 n';have I:eL.wrap (k+1+1+1+1)=k+1+1+1+1:=Z1 n';have C:eL.wrap (k+1+1+1+1+1)=k+((5:Nat):Int):=by rw[Z1 n'];omega
  have j:BT (k)=bN (mt (k)):=Jh n' n';simp only[Ew,hM,Aa,hi,decide_true,AB,bS,if_true,fi,(Z4 i),hX,U,R,J,I,C,j,dc,SC]
def Vj(j:a.length<=1099511627776)(I:1<=k)(C:k<=1125899906842624):Dl a k=bN (k+((5:Nat):Int)*a.length,Hn SC 5 a k):=by
  unfold Dl;rw[UO SC 5 (step:=Ew) n' aN ?_ j I C]
  · simp[He,AB]
  · intro l k;simp[Ew]
def kU{a:List Star}(hl:a.length<=1099511627776){k0:Int}(h0:1<=k0)(aa:k0<=1125899906842624):JR (Hn SC 5 a k0) k0=bN (k0+((5:Nat):Int)*a.length):=by
  unfold JR;rw[Uc (f:=SC) (c:=5) (a:=a) (k0:=k0) n' ?_ ?_ hl h0 aa]
  · rfl
  · intro x k i hi hg h1 h2;have U:eL.wrap (k+1)=k+1:=Z1 n';have R:eL.wrap (k+1+1)=k+1+1:=Z1 n';have J:eL.wrap (k+1+1+1)=k+1+1+1:=Z1 n';have I:eL.wrap (k+1+1+1+1)=k+1+1+1+1:=Z1 n';have C:eL.wrap (k+1+1+1+1+1)=k+((5:Nat):Int):=by rw[Z1 n'];omega
    have j:BT (k)=bN (mt (k)):=Jh n' n';simp only[Il,He,Aa,hi,decide_true,AB,bS,if_true,fi,(Z4 i),hg,U,R,J,I,C,j,dc,SC,beq_self_eq_true,bI,ed,if_false]
  · intro k;simp[Il,He]
def wa{x:Star}{n:Int}(J:0<=n)(I:n<=1048576)(C:x.Name.length<=et):∃z,MB x n=bN z/\(¬ z<0->z<=n/\x.Name.length<=1048576):=by
  have hm:et=9223372036854775807:=x'
  unfold MB;have j:eL.wrap (n-(x.Name.length:Int))=n-(x.Name.length:Int):=Z1 n';simp only[j]
  by_cases c0:n-(x.Name.length:Int)<0
  · exact⟨-1,by simp only[c0,decide_true,if_true],fun c=>absurd x' c⟩
  simp only[c0,decide_false,ed,if_false];exact⟨_,rfl,fun _=>⟨n',n'⟩⟩
def qO{a:List Star}{n:Int}(h0:0<=n)(h1:n<=1048576)(hl:a.length<=et)(hw:∀x∈a,x.Name.length<=et):∃z,LH a n=bN z/\(¬ z<0->z<=n/\a.length+z<=n/\∀x∈a,(x).Name.length<=1048576):=by
  have hm:et=9223372036854775807:=x'
  unfold LH;rw[Z1 n']
  by_cases h:n-(a.length:Int)<0
  · exact⟨-1,by simp[h],fun c=>absurd x' c⟩
  · obtain⟨y,hy,hq⟩:=DN (step:=IT a) (fun s=>0<=s.1/\s.1<=n-a.length/\∃i:Nat,s.2=(i:Int)/\i<=a.length/\∀j,j<i->(a.getD j ay).Name.length<=1048576)
        (fun y=>y = .inr (-1)\/∃z:Int,y = .inl z/\0<=z/\z<=n-a.length/\∀j,j<a.length->(a.getD j ay).Name.length<=1048576) (fun s=>a.length-s.2.toNat) (by
      rintro⟨z,i⟩ ⟨I,R,i,rfl,hi,J⟩;simp only at I R
      by_cases U:i<a.length
      · have hx:=hw _ (Hu U ay);obtain⟨z2,e2,q2⟩:=wa (x:=a.getD i ay) (n:=z) I n' hx;simp only[IT,bS,U,decide_true,if_true,Aa,AB,fi,(Z4 i),e2,dc]
        by_cases C:z2<0
        · right;exact⟨_,by simp only[C,decide_true,if_true],.inl rfl⟩
        · left;have q3:=q2 C;refine⟨_,by simp only[C,decide_false,ed,if_false];rfl,⟨by show 0<=z2;omega,by show z2<=_;omega,i+1,rfl,n',fun j aj=>?_⟩,by simp only[fi];omega⟩;rcases e8 j i with c|c
          · exact J j c
          · obtain rfl:j=i:=n'
            exact q3.2
      · right;obtain rfl:i=a.length:=n'
        exact⟨.inl z,by simp[IT],.inr ⟨z,rfl,I,R,J⟩⟩) (s:=(n-a.length,0)) ⟨by show 0<=n-_;omega,by show n-_<=_;omega,0,rfl,n',fun j J=>n'⟩
    simp only[h,decide_false,ed,if_false,hy,dc];rcases hq with rfl|⟨z,rfl,z0,z1,z2⟩
    · exact⟨-1,rfl,fun c=>absurd x' c⟩
    · refine⟨z,rfl,fun _=>⟨n',n',fun x hx=>?_⟩⟩;obtain⟨j,J,rfl⟩:=e9 hx;have:=z2 j J
      rwa [Cl J]at this
def fe(a b:AA):IW a b=bN (a==b):=by
  have hd:(a==b)=b5 (a=b):=by rw[cm];simp
  rw[hd];obtain⟨a0,a1,a2,a3,a4⟩:=a;obtain⟨b0,b1,b2,U,R⟩:=b;unfold IW;simp only[AA.mk.injEq]
  by_cases j:a0=b0
  rotate_left
  · simp[j]
  by_cases C:a1=b1
  rotate_left
  · simp[j,C]
  by_cases h2:a2=b2
  rotate_left
  · simp[j,C,h2]
  by_cases I:a3=U
  rotate_left
  · simp[j,C,h2,I]
  by_cases J:a4=R
  rotate_left
  · simp[j,C,h2,I,J]
  simp[j,C,h2,I,J]
variable{a:List AA}
def bV{b:List AA}(h:a.length<=1099511627776):Hi a b=bN (b5 (a=b)):=by
  unfold Hi
  by_cases j:a.length=b.length
  · have J:((a.length:Int)==(b.length:Int))=b9:=by simp[j]
    rw[J]
    have:=Gw (step:=FE a b) (fun i=>a.getD i ay==b.getD i ay) a.length (b5 (a=b)) (yes:=.inl ()) (no:=.inr b')
      (by rw[jn];exact(SP j).symm)
      (fun i hi=>by
        have C:i<b.length:=n'
        simp only[FE,Aa,hi,C,decide_true,AB,bS,if_true,fi,(Z4 i),fe,dc];cases(a.getD i ay==b.getD i ay)<;>rfl)
      (by simp[FE])
    simp only[bI,ed,if_false,this,dc]
    by_cases I:a=b<;>simp[I]
  · have J:((a.length:Int)==(b.length:Int))=b':=t'
    rw[J];have:a≠b:=fun c=>j (by rw[c])
    simp[this]
theorem fM(a:AA):KA a=bN a:=id rfl
def Ze(h:a.length<=1099511627776):Dy a=bN a:=by
  unfold Dy;rw[tV n' n' n',AB,fi,jZ _ h]
  · rfl
  · intro out i j hi;simp only[GY,Aa,j,hi,decide_true,AB,bS,if_true,fi,(Z4 i),fM,dc]
  · intro out;simp[GY]
def Ki(x:AA)(k:Int):AA:=⟨k,mt (k+1),mt (k+1+1),k+1+1+1,((k+1+1+1+1).tmod 3==0)⟩
def UP(l:List AA)(k:Int)(i:Nat)(hi:i<l.length)(ab:l.length<=1099511627776)(h1:1<=k)(h2:k<=2251799813685248):
    Da (l,k,(i:Int))=bN (.inl (l.set i (Ki (l.getD i ay) k),k+((5:Nat):Int),((i+1:Nat):Int))):=by
  have aa:eL.wrap (k+1)=k+1:=Z1 n';have U:eL.wrap (k+1+1)=k+1+1:=Z1 n';have R:eL.wrap (k+1+1+1)=k+1+1+1:=Z1 n';have J:eL.wrap (k+1+1+1+1)=k+1+1+1+1:=Z1 n';have I:eL.wrap (k+1+1+1+1+1)=k+((5:Nat):Int):=by rw[Z1 n'];omega
  have C:BT (k+1)=bN (mt (k+1)):=Jh n' n';have j:BT (k+1+1)=bN (mt (k+1+1)):=Jh n' n';simp only[Da,hM,Aa,hi,decide_true,AB,bS,if_true,fi,(Z4 i),hX,aa,U,R,J,I,C,dc,j,dc,Oa (show(3:Int)≠0 by decide),Ki]
def Pz(j:a.length<=1099511627776)(I:1<=k)(C:k<=1125899906842624):CL a k=bN (k+((5:Nat):Int)*a.length,Hn Ki 5 a k):=by
  unfold CL;rw[UO Ki 5 (step:=Da) n' UP ?_ j I C]
  · simp[He,AB]
  · intro l k;simp[Da]
def Xe{a:List AA}(hl:a.length<=1099511627776){k0:Int}(h0:1<=k0)(ab:k0<=1125899906842624):FT (Hn Ki 5 a k0) k0=bN (k0+((5:Nat):Int)*a.length):=by
  unfold FT;rw[Uc (f:=Ki) (c:=5) (a:=a) (k0:=k0) n' ?_ ?_ hl h0 ab]
  · rfl
  · intro x k i hi hg h1 h2;have aa:eL.wrap (k+1)=k+1:=Z1 n';have U:eL.wrap (k+1+1)=k+1+1:=Z1 n';have R:eL.wrap (k+1+1+1)=k+1+1+1:=Z1 n';have J:eL.wrap (k+1+1+1+1)=k+1+1+1+1:=Z1 n';have I:eL.wrap (k+1+1+1+1+1)=k+((5:Nat):Int):=by rw[Z1 n'];omega
    have C:BT (k+1)=bN (mt (k+1)):=Jh n' n';have j:BT (k+1+1)=bN (mt (k+1+1)):=Jh n' n';simp only[FO,He,Aa,hi,decide_true,AB,bS,if_true,fi,(Z4 i),hg,aa,U,R,J,I,C,dc,j,dc,Oa (show(3:Int)≠0 by decide),Ki,beq_self_eq_true,bI,ed,if_false]
  · intro k;simp[FO,He]
def fQ{x:AA}{n:Int}(U:0<=n)(R:n<=1048576)(J:x.Star.length<=et)(I:x.Observer.length<=et):∃z,IU x n=bN z/\(¬ z<0->z<=n/\x.Star.length<=1048576/\x.Observer.length<=1048576):=by
  have hm:et=9223372036854775807:=x'
  unfold IU;have C:eL.wrap (n-(x.Star.length:Int))=n-(x.Star.length:Int):=Z1 n';simp only[C]
  by_cases c0:n-(x.Star.length:Int)<0
  · exact⟨-1,by simp only[c0,decide_true,if_true],fun c=>absurd x' c⟩
  simp only[c0,decide_false,ed,if_false];have j:eL.wrap (n-(x.Star.length:Int)-(x.Observer.length:Int))=n-(x.Star.length:Int)-(x.Observer.length:Int):=Z1 n';simp only[j]
  by_cases c1:n-(x.Star.length:Int)-(x.Observer.length:Int)<0
  · exact⟨-1,by simp only[c1,decide_true,if_true],fun c=>absurd x' c⟩
  simp only[c1,decide_false,ed,if_false];exact⟨_,rfl,fun _=>⟨n',n',n'⟩⟩
def Zg{a:List AA}{n:Int}(h0:0<=n)(h1:n<=1048576)(hl:a.length<=et)(hw:∀x∈a,x.Star.length<=et/\x.Observer.length<=et):∃z,Hg a n=bN z/\(¬ z<0->z<=n/\a.length+z<=n/\∀x∈a,(x).Star.length<=1048576/\(x).Observer.length<=1048576):=by
  have hm:et=9223372036854775807:=x'
  unfold Hg;rw[Z1 n']
  by_cases h:n-(a.length:Int)<0
  · exact⟨-1,by simp[h],fun c=>absurd x' c⟩
  · obtain⟨y,hy,hq⟩:=DN (step:=FD a) (fun s=>0<=s.1/\s.1<=n-a.length/\∃i:Nat,s.2=(i:Int)/\i<=a.length/\∀j,j<i->(a.getD j ay).Star.length<=1048576/\(a.getD j ay).Observer.length<=1048576)
        (fun y=>y = .inr (-1)\/∃z:Int,y = .inl z/\0<=z/\z<=n-a.length/\∀j,j<a.length->(a.getD j ay).Star.length<=1048576/\(a.getD j ay).Observer.length<=1048576) (fun s=>a.length-s.2.toNat) (by
      rintro⟨z,i⟩ ⟨I,R,i,rfl,hi,J⟩;simp only at I R
      by_cases U:i<a.length
      · have hx:=hw _ (Hu U ay);obtain⟨z2,e2,q2⟩:=fQ (x:=a.getD i ay) (n:=z) I n' hx.1 hx.2;simp only[FD,bS,U,decide_true,if_true,Aa,AB,fi,(Z4 i),e2,dc]
        by_cases C:z2<0
        · right;exact⟨_,by simp only[C,decide_true,if_true],.inl rfl⟩
        · left;have q3:=q2 C;refine⟨_,by simp only[C,decide_false,ed,if_false];rfl,⟨by show 0<=z2;omega,by show z2<=_;omega,i+1,rfl,n',fun j aj=>?_⟩,by simp only[fi];omega⟩;rcases e8 j i with c|c
          · exact J j c
          · obtain rfl:j=i:=n'
            exact q3.2
      · right;obtain rfl:i=a.length:=n'
        exact⟨.inl z,by simp[FD],.inr ⟨z,rfl,I,R,J⟩⟩) (s:=(n-a.length,0)) ⟨by show 0<=n-_;omega,by show n-_<=_;omega,0,rfl,n',fun j J=>n'⟩
    simp only[h,decide_false,ed,if_false,hy,dc];rcases hq with rfl|⟨z,rfl,z0,z1,z2⟩
    · exact⟨-1,rfl,fun c=>absurd x' c⟩
    · refine⟨z,rfl,fun _=>⟨n',n',fun x hx=>?_⟩⟩;obtain⟨j,J,rfl⟩:=e9 hx;have:=z2 j J
      rwa [Cl J]at this
def mf(first:Bool)(c:UInt8):Bool:=(b5 (97<=c.toNat)&&b5 (c.toNat<=122))||(!first&&((b5 (48<=c.toNat)&&b5 (c.toNat<=57))||c.toNat==45))
def KZ(s:L8):Bool:=b5 (1<=s.length)&&(b5 (s.length<=12)&&((cb s.length).all fun i=>mf (i==0) (s.getD i 0)))
variable{n:Nat}
def TL{p:Nat->Bool}:((cb n).all p=b9) ↔ ∀i,i<n->p i=b9:=p'
def AAO(c:UInt8)(i:Nat):(!((b5 ((97:Int)<=(c.toNat:Int)))&&(b5 ((c.toNat:Int)<=122)))&&(((i:Int)==0)||(!(((b5 ((48:Int)<=(c.toNat:Int)))&&(b5 ((c.toNat:Int)<=57)))||((c.toNat:Int)==45))))) = !mf (i==0) c:=by
 have U:b5 ((97:Int)<=(c.toNat:Int))=b5 (97<=c.toNat):=by rw[decide_eq_decide];omega
 have R:b5 ((c.toNat:Int)<=122)=b5 (c.toNat<=122):=by rw[decide_eq_decide];omega
 have J:b5 ((48:Int)<=(c.toNat:Int))=b5 (48<=c.toNat):=by rw[decide_eq_decide];omega
 have I:b5 ((c.toNat:Int)<=57)=b5 (c.toNat<=57):=by rw[decide_eq_decide];omega
 have C:((c.toNat:Int)==45)=(c.toNat==45):=by rw[cm];simp;omega
 have j:((i:Int)==0)=(i==0):=by rw[cm];simp
 rw[U,R,J,I,C,j];unfold mf;cases decide (97<=c.toNat)<;>cases decide (c.toNat<=122)<;>cases decide (48<=c.toNat)<;>cases decide (c.toNat<=57)<;>cases(c.toNat==45)<;>cases(i==0)<;>rfl
def xI(c:UInt8):(((!(b5 (97<=c.toNat)&&b5 (c.toNat<=122)))&&(!(b5 (48<=c.toNat)&&b5 (c.toNat<=57))))&&(!((c.toNat:Int)==45))) = !mf b' c:=by
 have j:((c.toNat:Int)==45)=(c.toNat==45):=by rw[cm];simp;omega
 rw[j];unfold mf;cases decide (97<=c.toNat)<;>cases decide (c.toNat<=122)<;>cases decide (48<=c.toNat)<;>cases decide (c.toNat<=57)<;>cases(c.toNat==45)<;>rfl
def JY(s:L8):CD s=bN (KZ s):=by
 unfold CD
 by_cases h:((s.length:Int)<1)\/((12:Int)<s.length)
 .have j:((b5 ((s.length:Int)<1))||(b5 ((12:Int)<(s.length:Int))))=b9:=by simpa using h
  have h2:KZ s=b':=by unfold KZ;by_cases a:1<=s.length<;>by_cases b:s.length<=12<;>simp[a,b]<;>omega
  simp only[j,if_true,h2]
 .have j:((b5 ((s.length:Int)<1))||(b5 ((12:Int)<(s.length:Int))))=b':=by simpa using h
  simp only[j,ed,if_false];rw[Gw (step:=JX s (s.length:Int)) (fun i=>mf (i==0) (s.getD i 0)) s.length ((cb s.length).all fun i=>mf (i==0) (s.getD i 0)) (yes:=.inl ()) (no:=.inr b') TL]
  .have a1:1<=s.length:=n'
   have a2:s.length<=12:=n'
   unfold KZ;simp only[a1,a2,decide_true,ca];cases((cb s.length).all fun i=>mf (i==0) (s.getD i 0))<;>rfl
  .intro i hi;simp only[JX,bS,hi,decide_true,if_true,Aa,AB,fi,(Z4 i)];rw[AAO];cases mf (i==0) (s.getD i 0)<;>rfl
  .simp[JX]
def Pt(c:UInt8):Gn c=bN (b5 (97<=c.toNat)&&b5 (c.toNat<=122)):=by
 have j:((97:Int)<=(c.toNat:Int)) ↔ 97<=c.toNat:=n'
 have h2:((c.toNat:Int)<=122) ↔ c.toNat<=122:=n'
 simp[Gn,j,h2]
def XG(c:UInt8):Dq c=bN (b5 (48<=c.toNat)&&b5 (c.toNat<=57)):=by
 have j:((48:Int)<=(c.toNat:Int)) ↔ 48<=c.toNat:=n'
 have h2:((c.toNat:Int)<=57) ↔ c.toNat<=57:=n'
 simp[Dq,j,h2]
def JP(s:L8):CO s=bN (KZ s):=by
 unfold CO
 by_cases h:s.length=0\/12<s.length
 .have J:((s==([]:L8))||(b5 ((12:Int)<(s.length:Int))))=b9:=by
   rcases h with h|h
   .have:s=[]:=List.eq_nil_of_length_eq_zero h;simp[this]
   .simp;right;omega
  have h2:KZ s=b':=by unfold KZ;by_cases a:1<=s.length<;>by_cases b:s.length<=12<;>simp[a,b]<;>omega
  simp only[J,h2,bI,c8,ds,AB,if_true]
 .have J:((s==([]:L8))||(b5 ((12:Int)<(s.length:Int))))=b':=by
   rw[Bool.or_eq_false_iff];refine⟨?_,t'⟩;rw[beq_eq_false_iff_ne];rintro rfl;simp at h
  have C:AS 0 s.length=true:=Z2 n';simp only[J,C,Pt,bo,bR,bX,AB,c']
  by_cases I:(b5 (97<=(s.getD 0 0).toNat)&&b5 ((s.getD 0 0).toNat<=122))=b9
  .rw[I];simp only[bI,ed,if_false];rw[Gw (step:=JO s) (fun i=>mf b' (s.getD i 0)) s.length ((cb s.length).all fun i=>mf (i==0) (s.getD i 0)) (yes:=.inl ()) (no:=.inr b')]
   .have a1:1<=s.length:=n'
    have a2:s.length<=12:=n'
    unfold KZ;simp only[a1,a2,decide_true,ca];cases((cb s.length).all fun i=>mf (i==0) (s.getD i 0))<;>rfl
   .rw[TL];refine forall_congr' fun i=>forall_congr' fun hi=>?_
    by_cases e:i=0
    .subst e;simp only[mf,I,ds]
    .have:(i==0)=b':=by simpa using e
     rw[this]
   .intro i hi;simp only[JO,bS,hi,decide_true,if_true,Aa,AB,fi,(Z4 i),Pt,XG,dc,bo,bR,bX];rw[xI];cases mf false (s.getD i 0)<;>rfl
   .simp[JO]
  .have j:(b5 (97<=(s.getD 0 0).toNat)&&b5 ((s.getD 0 0).toNat<=122))=b':=by simpa using I
   rw[j]
   have:KZ s=b':=by
    unfold KZ
    have:((cb s.length).all fun i=>mf (i==0) (s.getD i 0))=b':=by
     cases R:((cb s.length).all fun i=>mf (i==0) (s.getD i 0))with
     |false=>rfl
     | true=>
      have:=TL.1 R 0 n';simp only[mf,j,beq_self_eq_true,bI,cn,fA,ed]at this
    simp only[this,df]
   rw[this];rfl
def Mu{ρ:Type}{step:Int->Option (Int⊕(Unit⊕ρ))}(p:Nat->Bool)(g:Nat->ρ)(n:Nat)
  (hs:∀i,i<n->step (i:Int)=bN (if p i=b9 then .inr (.inr (g i))else .inl ((i+1:Nat):Int))) (he:step (n:Int)=bN (.inr (.inl ()))) :
  AE step 0=bN (match(cb n).find? p with|some j=>.inr (g j)|none=>.inl ()):=by
 have key:∀m i:Nat,i+m=n->(∀k,k<i->p k=b')->AE step (i:Int)=bN (match(cb n).find? p with|some j=>.inr (g j)|none=>.inl ()):=by
  intro m
  induction m with
  | zero=>
   intro i hi I;obtain rfl:i=n:=n'
   rw[Ai he]
   have:(cb i).find? p=hV:=by
    rw[fp];intro x U;rw[I x (by simpa using U)];exact iS
   rw[this]
  | succ m R=>
   intro i hi I;have C:i<n:=n'
   by_cases J:p i=b9
   .rw[Ai (by rw[hs i C,if_pos J])]
    have:(cb n).find? p=bN i:=by
     rw[dw];exact⟨J,by simpa using C,fun j hj=>by simp[I j hj]⟩
    rw[this]
   .rw[Aq (by rw[hs i C,if_neg J])];refine R (i+1) n' fun k aa=>?_
    rcases e8 k i with c|c
    .exact I k c
    .obtain rfl:k=i:=n'
     simpa using J
 exact key n 0 n' fun k I=>n'
def pB{α:Type}[Inhabited α](xs:List α)(f:α->Bool):((cb xs.length).find? fun i=>f (xs.getD i ay)).isSome=xs.any f:=by
 rw[cm,List.find?_isSome,hJ];constructor
 .rintro⟨i,hi,C⟩;have j:i<xs.length:=by simpa using hi
  exact⟨_,Hu j ay,C⟩
 .rintro⟨x,I,C⟩;obtain⟨i,hi,rfl⟩:=e9 I;exact⟨i,by simpa using hi,by rw[Cl hi];exact C⟩
def Of{α β:Type}(p:Nat->Bool)(x:Nat->β)(n:Nat):List β:=((cb n).filter p).map x
def oK{β:Type}(p:Nat->Bool)(x:Nat->β)(n:Nat):Of (α:=β) p x (n+1)=if p n=b9 then Of (α:=β) p x n++[x n]else Of (α:=β) p x n:=by
 unfold Of;rw[List.range_succ,List.filter_append,List.map_append]
 by_cases h:p n=b9
 .simp[h]
 .simp[h]
def aX{β:Type}(p:Nat->Bool)(x:Nat->β)(n:Nat):(Of (α:=β) p x n).length<=n:=by
 unfold Of;rw[List.length_map];exact Nat.le_trans (List.length_filter_le _ _) p'
def Tr{β ρ:Type}{step:List β×Int->Option ((List β×Int)⊕ρ)}(p:Nat->Bool)(x:Nat->β)(n:Nat){r:ρ}
  (hs:∀(out:List β) (i:Nat),i<n->out.length<=i->step (out,(i:Int))=bN (.inl (if p i=b9 then out++[x i]else out,((i+1:Nat):Int))))
  (j:step (Of (α:=β) p x n,(n:Int))=bN (.inr r)):AE step ([],0)=bN r:=by
 exact MK (step:=step) (fun i=>Of (α:=β) p x i) n (r:=r) (fun i hi=>by rw[hs _ i hi (aX _ _ _),oK]) j
def QR:∀(a b:L8),(b5 (cc a b<0)=cf a b)/\((cc a b==0)=(a==b))
 |[],[]=>by simp[cc,cf]
 |[],_::_=>by simp[cc,cf]
 |_::_,[]=>by simp[cc,cf]
 | x::a,y::b=>by
  obtain⟨J,h2⟩:=QR a b
  by_cases e:x=y
  .subst e;have I:¬ x<x:=UInt8.lt_irrefl x;simp only[cc,cf,I,if_false,decide_false,c',beq_self_eq_true,ca];refine⟨J,?_⟩;rw[h2,cm];simp
  .by_cases j:x<y
   .simp[cc,cf,j,e]
   .have C:y<x:=UInt8.lt_of_le_of_ne (UInt8.not_lt.1 j) (Ne.symm e);simp[cc,cf,j,C,e]
theorem fG(a b:L8):IL a b=bN (cc a b):=id rfl
def Tn(a b:Int):GE a b=bN (if a<b then -1 else if b<a then 1 else 0):=by
 unfold GE Ia
 by_cases j:a<b
 .simp[j]
 .by_cases h2:b<a
  .simp[j,h2]
  .simp[j,h2]
def AJI(a b c:Int):Lp [a,b,c]=bN (if a≠0 then a else if b≠0 then b else c):=by
 unfold Lp
 have hs:=Mu (step:=KO 0 [a,b,c] (([a,b,c]:List Int).length:Int)) (fun i=>!(([a,b,c]:List Int).getD i ay==0)) (fun i=>([a,b,c]:List Int).getD i ay) 3
  (fun i hi=>by
   have R:AS (i:Int) ([a,b,c]:List Int).length=b9:=by rw[Aa];simpa using hi
   have h2:b5 ((i:Int)<(([a,b,c]:List Int).length:Int))=b9:=t'
   simp only[KO,R,h2,AB,if_true,fi,(Z4 i)];cases(!(([a,b,c]:List Int).getD i ay==0))<;>rfl)
  (by simp[KO])
 rw[hs]
 by_cases C:a=0
 .by_cases hb:b=0
  .by_cases J:c=0
   .subst C;subst hb;subst J;rfl
   .subst C;subst hb
    have:(cb 3).find? (fun i=>!(([0,0,c]:List Int).getD i ay==0))=bN 2:=by
     rw[dw];refine⟨by simpa using J,p',fun j I=>?_⟩
     match j,I with
     |0,_=>rfl
     |1,_=>rfl
    rw[this];simp
  .subst C
   have:(cb 3).find? (fun i=>!(([0,b,c]:List Int).getD i ay==0))=bN 1:=by
    rw[dw];refine⟨by simpa using hb,p',fun j I=>?_⟩
    match j,I with
    |0,_=>rfl
   rw[this];simp[hb]
 .have:(cb 3).find? (fun i=>!(([a,b,c]:List Int).getD i ay==0))=bN 0:=by
   rw[dw];exact⟨by simpa using C,p',fun j I=>n'⟩
  rw[this];simp[C]
def Fq(a b:AA):Bool:=if a.Time=b.Time then(if a.Star=b.Star then cf a.Observer b.Observer else cf a.Star b.Star)else b5 (a.Time<b.Time)
def Xy(a b:AA):DQ a b=bN (Fq a b):=by
 unfold DQ Fq
 by_cases j:a.Time=b.Time
 .by_cases h2:a.Star=b.Star
  .simp[j,h2]
  .simp[j,h2]
 .simp[j]
def Ya(a b:AA):∃c,Bc a b=bN c/\b5 (c<0)=Fq a b:=by
 unfold Bc;simp only[Tn,fG,AJI,dc];refine⟨_,rfl,?_⟩;obtain⟨s1,s2⟩:=QR a.Star b.Star;obtain⟨C,R⟩:=QR a.Observer b.Observer;unfold Fq
 by_cases j:a.Time=b.Time
 .simp only[j,Int.lt_irrefl,if_false,ne_eq,not_true_eq_false,if_true]
  by_cases h2:a.Star=b.Star
  .have e:cc a.Star b.Star=0:=by
    have:(a.Star==b.Star)=b9:=by simpa using h2
    rw[this]at s2;simpa using s2
   simp only[e,not_true_eq_false,if_false,h2,if_true];have J:cc b.Star b.Star=0:=by rw[←h2]at e ⊢;exact e
   simp[J,C]
  .have e:¬ cc a.Star b.Star=0:=by
    have:(a.Star==b.Star)=b':=by simpa using h2
    rw[this]at s2;simpa using s2
   simp[e,h2,s1]
 .by_cases h2:a.Time<b.Time
  .simp[j,h2]
  .have I:b.Time<a.Time:=n'
   simp[j,h2,I]
def Nj(e:AA):Bool:=(((b5 (0<=e.Time)&&b5 (e.Time<=10000000))&&KZ e.Star)&&KZ e.Observer)&&(b5 (-2000<=e.Mag)&&b5 (e.Mag<=20000))
def ik(e:AA):Kf e=bN (Nj e):=by
 unfold Kf Nj;simp only[Gc,Bv,Dr,JP,dc,bo,bR,bX,AB]
def Td(e:AA):GP e=bN (Nj e):=by
 unfold GP Nj;simp only[EV,Ba,FV,JY,dc,bo,bR,bX,AB]
def dz(l:List AA)(i:Nat):Bool:=Nj (l.getD i ay) && !(b5 (0<i) && !Fq (l.getD (i-1) ay) (l.getD i ay))
def FP(l:List AA):Bool:=(cb l.length).all (dz l)
variable{l:List AA}{i:Nat}
def AAu(U:l.length<=1099511627776)(hi:i<l.length):Iz l (i:Int)=bN (if dz l i=b9 then .inl ((i+1:Nat):Int)else .inr (.inr b')):=by
 simp only[Iz,Aa,hi,decide_true,AB,bS,if_true,fi,(Z4 i),ik,Xy,dc,bo,bR,bX];unfold dz
 by_cases j:0<i
 .have J:b5 ((0:Int)<(i:Int))=b9:=by simpa using j
  have I:b5 (0<i)=b9:=by simpa using j
  have R:eL.wrap ((i:Int)-1)=((i-1:Nat):Int):=by rw[Z1 n'];omega
  have C:AS ((i-1:Nat):Int) l.length=b9:=by rw[Aa];simp;omega
  simp only[J,I,R,C,bX,AB,ca,fi];generalize Nj (l.getD i ay)=A;generalize Fq (l.getD (i-1) ay) (l.getD i ay)=B;cases A<;>cases B<;>rfl
 .have J:b5 ((0:Int)<(i:Int))=b':=by simpa using j
  have I:b5 (0<i)=b':=by simpa using j
  simp only[J,I,cn,df,c8,ds,AB,fA,cI];generalize Nj (l.getD i ay)=A;cases A<;>rfl
def SH{l:List AA}(j:l.length<=1099511627776):Hj l=bN (FP l&&b5 (l.length<=100)):=by
 unfold Hj;rw[Gw (step:=Iz l) (dz l) l.length (FP l) (yes:=.inl ()) (no:=.inr b') (by unfold FP;simp) (fun i hi=>AAu j hi) (by simp[Iz])];have e:b5 ((l.length:Int)<=100)=b5 (l.length<=100):=by rw[cm];simp;omega
 simp only[dc,YL];cases FP l<;>simp[e]
def qF(hl:l.length<=1099511627776)(hi:i<l.length):DO l l (l.length:Int) (i:Int)=bN (if dz l i=b9 then .inl ((i+1:Nat):Int)else .inr (.inr b')):=by
 obtain⟨c,hc,I⟩:=Ya (l.getD (i-1) ay) (l.getD i ay);simp only[DO,Aa,hi,decide_true,AB,bS,if_true,fi,(Z4 i),Td,dc,bo,bR,bX];unfold dz
 by_cases j:0<i
 .have R:b5 ((0:Int)<(i:Int))=b9:=by simpa using j
  have J:b5 (0<i)=b9:=by simpa using j
  have U:eL.wrap ((i:Int)-1)=((i-1:Nat):Int):=by rw[Z1 n'];omega
  have C:AS ((i-1:Nat):Int) l.length=b9:=by rw[Aa];simp;omega
  simp only[R,J,U,C,bX,AB,ca,fi,hc,bo,bR]
  have e2:b5 (0<=c) = !Fq (l.getD (i-1) ay) (l.getD i ay):=by
   rw[←I,←decide_not];congr 1;rw[j2]
  rw[e2];generalize Nj (l.getD i ay)=A;generalize Fq (l.getD (i-1) ay) (l.getD i ay)=B;cases A<;>cases B<;>rfl
 .have R:b5 ((0:Int)<(i:Int))=b':=by simpa using j
  have J:b5 (0<i)=b':=by simpa using j
  simp only[R,J,cn,df,c8,ds,AB,fA,cI];generalize Nj (l.getD i ay)=A;cases A<;>rfl
def GH{l:List AA}(j:l.length<=1099511627776):BO l=bN (FP l&&b5 (l.length<=100)):=by
 unfold BO
 by_cases h:100<(l.length:Int)
 .have e:b5 (l.length<=100)=b':=t'
  simp[h,e]
 .have e:b5 (l.length<=100)=b9:=t'
  simp only[h,decide_false,ed,if_false];rw[Gw (step:=DO l l (l.length:Int)) (dz l) l.length (FP l) (yes:=.inl ()) (no:=.inr b') (by unfold FP;simp) (fun i hi=>qF j hi) (by simp[DO])];simp only[dc,YL,e];cases FP l<;>rfl
def DA(c:UInt8):L8->L8->List L8
 |acc,[]=>[acc]
 |acc,x::r=>if x=c then acc::DA c [] r else DA c (acc++[x]) r
def BU(c:UInt8)(s:L8):List L8:=DA c [] s
def PD{c:UInt8}:∀{s acc:L8},c ∉ s->DA c acc s=[acc++s]
 |[],acc,_=>by simp[DA]
 | x::r,acc,h=>by
  have j:x≠c:=fun e=>h (by simp[e])
  rw[DA,if_neg j,PD (fun hm=>h (by simp[hm])),cA];rfl
def Kz{c:UInt8}:∀{a acc b:L8},c ∉ a->DA c acc (a++c::b)=(acc++a)::DA c [] b
 |[],acc,b,_=>by simp[DA]
 | x::r,acc,b,h=>by
  have j:x≠c:=fun e=>h (by simp[e])
  rw[eo,DA,if_neg j,Kz (fun hm=>h (by simp[hm])),cA];rfl
def YD(c:UInt8):∀s acc:L8,DA c acc s≠[]
 |[],acc=>by simp[DA]
 | x::r,acc=>by
  rw[DA];split
  .simp
  .exact YD c r _
def Nw(c:UInt8):∀s acc:L8,1<=(DA c acc s).length/\(DA c acc s).length<=s.length+1
 |[],acc=>by simp[DA]
 | x::r,acc=>by
  rw[DA];split
  .have:=Nw c r [];simp only[c6];omega
  .have:=Nw c r (acc++[x]);simp only[c6];omega
def Pf(c:UInt8):List L8->L8
 |[]=>[]
 |[a]=>a
 |a::b::r=>a++c::Pf c (b::r)
def NH(c:UInt8):∀s acc:L8,Pf c (DA c acc s)=acc++s
 |[],acc=>by simp[DA,Pf]
 | x::r,acc=>by
  rw[DA];split
  .rename_i e;have h:=NH c r [];cases hs:DA c [] r with
   |nil=>exact absurd hs (YD c r [])
   |cons b t=>rw[hs]at h;rw[Pf,h,e];rfl
  .rw[NH c r (acc++[x]),cA];rfl
def Zm(c:UInt8):∀(l:List L8),l≠[]->(∀p∈l,c ∉ p)->BU c (Pf c l)=l
 |[],h,_=>absurd rfl h
 | [a],_,h=>by
  unfold BU Pf;rw[PD (h a p')];rfl
 | a::b::r,_,h=>by
  have j:=Zm c (b::r) p' (fun p C=>h p (by simp[C]));unfold BU at j ⊢;rw[Pf,Kz (h a p'),j];rfl
def KM(c:UInt8):∀s:L8,(h' s [c]=-1/\c ∉ s)\/∃a b,s=a++c::b/\c ∉ a/\h' s [c]=a.length
 |[]=>.inl ⟨by simp[h'],p'⟩
 | x::r=>by
  unfold h'
  by_cases e:x=c
  .subst e;exact .inr ⟨[],r,rfl,p',p'⟩
  .have I:(gf [c] (x::r))=b':=by
    simp only[gf,cI,beq_eq_false_iff_ne];exact fun h=>e h.symm
   rw[I];rcases KM c r with⟨C,h2⟩|⟨a,b,rfl,h2,j⟩
   .exact .inl ⟨by simp[C],by simp only[g',not_or];exact⟨fun h=>e h.symm,h2⟩⟩
   .refine .inr ⟨x::a,b,rfl,by simp only[g',not_or];exact⟨fun h=>e h.symm,h2⟩,?_⟩;rw[j];have:(((a.length:Int))==-1)=b':=by rw[beq_eq_false_iff_ne];omega
    simp[this]
variable{c:UInt8}{s:L8}
def Ui(h:c ∉ s):hQ s [c]=(s,[],b'):=by
 rcases KM c s with⟨j,_⟩|⟨a,b,rfl,_,_⟩
 .unfold hQ;rw[j,if_neg x']
 .exact absurd p' h
variable{a:L8}
def RI(h:c ∉ a):hQ (a++c::b) [c]=(a,b,b9):=by
 rcases KM c (a++c::b)with⟨_,h2⟩|⟨a',C,e,h2,J⟩
 .exact absurd p' h2
 .have I:a'=a/\C=b:=by
   have s1:=Kz (acc:=[]) (b:=b) h;have s2:=Kz (acc:=[]) (b:=C) h2;rw[e,s2]at s1;have:[]++a'=[]++a:=(ej s1).1;have j:a'=a:=by simpa using this
   subst j;exact⟨rfl,((ej (ef e)).2).symm⟩
  obtain⟨rfl,rfl⟩:=I;unfold hQ;rw[J,if_pos n'];simp
def wh(c:UInt8):∀(k:Nat) (s:L8),s.count c=k->Lib.splitK [c] 0 k s=BU c s:=by
 intro k
 induction k with
 | zero=>
  intro s h;have R:c ∉ s:=ea.1 h;unfold BU;rw[PD R];rfl
 | succ k I=>
  intro s h;rcases KM c s with⟨h1,h2⟩|⟨a,b,rfl,h2,U⟩
  .rw[ea.2 h2]at h;omega
  .unfold Lib.splitK;have C:((a.length:Int)==-1)=b':=by rw[beq_eq_false_iff_ne];omega
   rw[U];simp only[C,ed,if_false]
   have j:b.count c=k:=by
    rw[j1,ea.2 h2,iN]at h;omega
   have e1:(a++c::b).take ((a.length:Int).toNat+0)=a:=p'
   have J:(a++c::b).drop ((a.length:Int).toNat+([c]:L8).length)=b:=p'
   unfold BU;rw[Kz h2]
   first
    |rw[e1,J,I b j]
    |(rw[J,I b j];simp[BU])
   rfl
def yS(c:UInt8):∀(f:Nat) (s:L8),s.length<f->ks [c] f s=s.count c:=by
 intro f
 induction f with
 |zero=>intro s h;omega
 | succ f C=>
  intro s h;unfold ks;rcases KM c s with⟨J,h2⟩|⟨a,b,rfl,h2,I⟩
  .simp[J,ea.2 h2]
  .have j:((a.length:Int)==-1)=b':=by rw[beq_eq_false_iff_ne];omega
   rw[I];simp only[j,ed,if_false];have R:(a++c::b).drop ((a.length:Int).toNat+([c]:L8).length)=b:=p'
   rw[R,C b (by simp at h;omega),j1,ea.2 h2,iN];omega
def zS(c:UInt8)(s:L8):Lib.split s [c]=BU c s:=by
 unfold Lib.split Lib.count;rw[yS c _ s n'];exact wh c _ s rfl
def Ue{c:UInt8}{s:L8}(h:s.length<4294967281):Xf s [c]=bN (BU c s):=by
 unfold Xf;rw[zS];simp[h]
def oX(h:s.length<4294967281):fY s [c]=bN (hQ s [c]):=by
 unfold fY;rw[if_pos h]
def Xl(c:UInt8):Bool:=b5 (48<=(c.toNat:Int))&&b5 ((c.toNat:Int)<=57)
def NR:Xl c=b9 ↔ 48<=c.toNat/\c.toNat<=57:=by
 unfold Xl;simp only[kb,jn];omega
def valF(n:Nat)(l:L8):Nat:=l.foldl (fun n c=>n*10+(c.toNat-48)) n
def Pn(n:Nat):valF n []=n:=by unfold valF;rw[List.foldl_nil]
def OH(n:Nat)(c:UInt8)(r:L8):valF n (c::r)=valF (n*10+(c.toNat-48)) r:=by unfold valF;rw[List.foldl_cons]
def Su{l:L8}:∀{n a:Nat},n<10^a->l.all Xl=b9->valF n l<10^(a+l.length):=by
 induction l with
 |nil=>intro n a h _;rw[Pn];exact h
 | cons c r j=>
  intro n a h hd;simp only[d',kb]at hd;have C:=NR.1 hd.1;have h2:n*10+(c.toNat-48)<10^(a+1):=by rw[fa];omega
  have:=j h2 hd.2;rw[OH,c6]
  rwa [fB,Nat.add_comm 1]at this
def LF{k:Nat}(h:k<=18):(10:Nat)^k<=1000000000000000000:=gr n' h
def AOX:=gv 0 0 [0]
def Va{l:L8}:∀{n a:Nat},n<10^a->a+l.length<=18->gv (2^64-1) n l=if l.all Xl=b9 then .ok (valF n l)else AOX:=by
 induction l with
 |nil=>intro n a _ _;simp[gv,Pn]
 | cons c r C=>
  intro n a h J;rw[c6]at J;have R:=LF (show a<=18 by omega);have I:=LF (show a+1<=18 by omega);rw[gv]
  by_cases j:48<=c.toNat/\c.toNat<=57
  .have h2:n*10+(c.toNat-48)<10^(a+1):=by rw[fa];omega
   rw[if_pos j,if_neg n',if_neg n',C h2 n'];simp only[d',NR.2 j,ca,OH]
  .rw[if_neg j]
   have:Xl c=b':=by
    cases hd:Xl c with
    |false=>rfl
    |true=>exact absurd (NR.1 hd) j
   simp only[d',this,cn,ed,if_false];rfl
def uo:∀(k u:Nat),u<10^(k+1)->(b8 u).all Xl=b9
 | 0,u,h=>by
  have h:u<10:=by simpa using h
  rw[e3 h];simp only[d',hZ,cI,NR,dx];omega
 | k+1,u,h=>by
  by_cases c:u<10
  .rw[e3 c];simp only[d',hZ,cI,NR,dx];omega
  .rw[b8,dif_neg c,List.all_append,uo k (u/10) (by rw[fa]at h;omega)];simp only[d',hZ,cI,ca,NR,dx];omega
def RH(u:Nat):(b8 u).all Xl=true:=uo u u (h9 (Nat.lt_pow_self n') (gr n' n'))
def xf(n:Int)(r:L8):c7 n≠43::r:=by
 intro h;unfold c7 at h;split at h
 .have:=(ej h).1;exact absurd this x'
 .have:=RH n.toNat;rw[h]at this;simp[Xl]at this
def qK(r:L8):en (45::r) [45]=r:=by simp[en,h8]
variable{r:L8}
def qJ(h:c≠45):en (c::r) [45]=c::r:=by
 unfold en h8
 have:(gf [45] (c::r))=b':=by
  simp only[gf,cI,beq_eq_false_iff_ne];exact fun e=>h e.symm
 simp[this]
theorem SA:CQ (45::r)=if r.length<1\/18<r.length then(0,b')else if r.all Xl=b9 then(if c7 (-(valF 0 r:Int))=45::r then(-(valF 0 r:Int),b9)else(0,b'))else(0,b'):=by
 unfold CQ;rw[qK]
 by_cases h:r.length<1\/18<r.length
 .rw[if_pos h,if_pos h]
 .rw[if_neg h,if_neg h];have j:r≠[]:=fun e=>h (.inl (by simp[e]))
  have J:=Va (l:=r) (n:=0) (a:=0) p' n';have I:((45:UInt8).toNat=43\/(45:UInt8).toNat=45):=.inr rfl;unfold hW;simp only[I,if_true,kn,j,if_false,J]
  by_cases hd:r.all Xl=b9
  .have R:=Su (l:=r) (n:=0) (a:=0) p' hd;have hv2:=LF (k:=0+r.length) n';have C:((45:UInt8).toNat=45):=rfl;have n2:¬ (2^(64-1)<valF 0 r):=n'
   simp only[hd,if_true,C,not_true_eq_false,false_and,if_false,true_and,n2]
  .simp only[hd,ed,if_false];rfl
def PG(R:c≠45):CQ (c::r)=if(c::r).length<1\/18<(c::r).length then(0,b')else if(c::r).all Xl=b9 then(if c7 (valF 0 (c::r):Int)=c::r then((valF 0 (c::r):Int),b9)else(0,b'))else(0,b'):=by
 unfold CQ;rw[qJ R]
 by_cases h:(c::r).length<1\/18<(c::r).length
 .rw[if_pos h,if_pos h]
 .rw[if_neg h,if_neg h];have C:¬ (c.toNat=45):=fun e=>R (by rw[←ev];exact e)
  by_cases j:c=43
  .subst j;have hd:((43:UInt8)::r).all Xl=b':=by simp[Xl]
   rw[hd];simp only[ed,if_false];rcases J:hW 64 (43::r)with v|_|_
   .simp only[if_neg (xf v r)]
   .rfl
   .rfl
  .have I:¬ (c.toNat=43\/c.toNat=45):=fun e=>by
    rcases e with e|e
    .exact j (by rw[←ev];exact e)
    .exact C e
   have J:=Va (l:=c::r) (n:=0) (a:=0) p' n';unfold hW;simp only[I,if_false,kn,List.cons_ne_nil,J]
   by_cases hd:(c::r).all Xl=b9
   .have U:=Su (l:=c::r) (n:=0) (a:=0) p' hd;have hv2:=LF (k:=0+(c::r).length) n';have n1:¬ (2^(64-1)<=valF 0 (c::r)):=n'
    simp only[hd,if_true,C,not_false_eq_true,true_and,n1,false_and,if_false]
   .simp only[hd,ed,if_false];rfl
def Oc:∀(k u:Nat),u<10^(k+1)->Lib.nDigits u<=k+1
 |0,u,h=>by rw[j9 (by simpa using h)];omega
 | k+1,u,h=>by
  by_cases c:u<10
  .rw[j9 c];omega
  .rw[Lib.nDigits_big c];have:=Oc k (u/10) (by rw[fa]at h;omega);omega
def Eo{u:Nat}(h:u<=9223372036854775808):(b8 u).length<=20:=by
 rw[e6];exact Oc 19 u n'
def LN(u:Nat):1<=(b8 u).length:=by
 rw[e6];exact Lib.nDigits_pos u
def Fv{n:Int}(h:QY n):(c7 n).length<=21:=by
 obtain⟨j,h2⟩:=h;unfold c7;split
 .have:=Eo (u:=n.natAbs) n';simp;omega
 .have:=Eo (u:=n.toNat) n';omega
variable{d:Ad}
def bW{d:Nat}(h:d<10):mm (iB.wrap (eL.wrap (48+(d:Int))))=fu (48+d):=by
 have:d=0\/d=1\/d=2\/d=3\/d=4\/d=5\/d=6\/d=7\/d=8\/d=9:=n'
 rcases this with rfl|rfl|rfl|rfl|rfl|rfl|rfl|rfl|rfl|rfl<;>decide +kernel
def ALW(n:Int)(m:Nat)(s:L8×Int):Prop := ∃u:Nat,s.2=(if n<0 then -(u:Int)else(u:Int))/\u<=m/\(if u=0 then s.1=b8 m else b8 m=b8 u++s.1)
def ABi{n:Int}{m:Nat}(hm:m<=9223372036854775808){out:L8}{u:Nat}(J:u<=m)(U:u≠0)(h:b8 m=b8 u++out):
  ES n (out,if n<0 then -(u:Int)else(u:Int))=bN (.inl (fu (48+u%10)::out,if n<0 then -((u/10:Nat):Int)else((u/10:Nat):Int))) /\
  (if u/10=0 then fu (48+u%10)::out=b8 m else b8 m=b8 (u/10)++fu (48+u%10)::out):=by
 have R:out.length<=20:=by
  have:=Eo hm;rw[h,cd]at this;omega
 constructor
 .have t1:((u:Int)).tmod 10=((u%10:Nat):Int):=by rw[ct n'];omega
  have t2:((u:Int)).tdiv 10=((u/10:Nat):Int):=by rw[cB n'];omega
  have w:eL.wrap ((u%10:Nat):Int)=((u%10:Nat):Int):=Z1 n';have j:Dg (([fu (48+u%10)]:L8).length+out.length) 1=true:=Bl t'
  by_cases I:n<0
  .have k0:((-(u:Int))==0)=b':=by rw[beq_eq_false_iff_ne];omega
   have w2:eL.wrap (-((u/10:Nat):Int))=-((u/10:Nat):Int):=Z1 n';simp only[ES,I,if_true,k0,c8,Oa (show(10:Int)≠0 by decide),AB,Int.neg_tmod,Int.neg_tdiv,t1,t2,w2]
   by_cases hd:u%10=0
   .have e:¬ (-(((u%10:Nat)):Int)<0):=n'
    simp only[e,decide_false,ed,if_false];have C:(-((u%10:Nat):Int))=((u%10:Nat):Int):=n'
    rw[C,bW (iZ _ n'),j,AB];rfl
   .have e:(-(((u%10:Nat)):Int)<0):=n'
    have C:(0 - -((u%10:Nat):Int))=((u%10:Nat):Int):=n'
    simp only[e,decide_true,if_true,C,w];rw[bW (iZ _ n'),j,AB];rfl
  .have k0:((u:Int)==0)=b':=by rw[beq_eq_false_iff_ne];omega
   have w2:eL.wrap ((u/10:Nat):Int)=((u/10:Nat):Int):=Z1 n';have e:¬ ((((u%10:Nat)):Int)<0):=n'
   simp only[ES,I,if_false,k0,c8,if_true,Oa (show(10:Int)≠0 by decide),AB,t1,t2,w2,e,decide_false,ed];rw[bW (iZ _ n'),j,AB];rfl
 .by_cases c:u<10
  .have e:u/10=0:=n'
   rw[if_pos e,h,e3 c,Nat.mod_eq_of_lt c];rfl
  .have e:¬ u/10=0:=n'
   rw[if_neg e,h,b8,dif_neg c,cA];rfl
def KL{n:Int}(hr:QY n):BE n=bN (c7 n):=by
 obtain⟨h1,h2⟩:=hr
 by_cases h0:n=0
 .subst h0;unfold BE;rw[Ai (r:=([]:L8)) (by simp[ES])];simp[c7,b8]
 .obtain⟨m,hm,R,I⟩:∃m:Nat,m<=9223372036854775808/\m≠0/\n=(if n<0 then -(m:Int)else(m:Int)):=by
   by_cases C:n<0
   .exact⟨n.natAbs,n',n',by rw[if_pos C];omega⟩
   .exact⟨n.toNat,n',n',by rw[if_neg C];omega⟩
  have hw:AE (ES n) (([]:L8),n)=bN (b8 m):=by
   obtain⟨y,hy,hq⟩:=DN (step:=ES n) (ALW n m) (fun y=>y=b8 m) (fun s=>s.2.natAbs) (by
    rintro⟨out,k⟩ ⟨u,U,hu,hd⟩;simp only at U hd;subst U
    by_cases j:u=0
    .subst j;right;rw[if_pos rfl]at hd;refine⟨out,?_,hd⟩;split<;>simp[ES]
    .left;rw[if_neg j]at hd;obtain⟨e1,J⟩:=ABi (n:=n) hm hu j hd;refine⟨_,e1,⟨u/10,rfl,n',J⟩,?_⟩;show Int.natAbs (if n<0 then _ else _)<Int.natAbs (if n<0 then _ else _);split<;>omega) (s:=(([]:L8),n)) ⟨m,I,cw _,by rw[if_neg R,hN]⟩
   rw[hy,hq]
  unfold BE;rw[hw];have aj:=LN m;have ae:=Eo hm;have e:(((b8 m).length:Int)==0)=b':=by rw[beq_eq_false_iff_ne];omega
  simp only[dc,e,ed,if_false];unfold c7
  by_cases C:n<0
  .rw[if_pos C]at I;have J:n.natAbs=m:=n'
   simp only[C,decide_true,if_true,J];rw[As t',AB];rfl
  .rw[if_neg C]at I;have J:n.toNat=m:=n'
   simp[C,J]
def Kv{n:Int}(j:QY n):Av n=bN (c7 n):=by
 obtain⟨C,h2⟩:=j;unfold Av Id AFg;simp[C,h2]
def ABl{s:L8}{i:Nat}:j' s (i:Int) (i:Int)=[]:=by
 simp[j']
def ABk{s:L8}{a i:Nat}(h:a<=i)(hi:i<s.length):j' s (a:Int) ((i+1:Nat):Int)=j' s (a:Int) (i:Int)++[s[i]]:=by
 simp only[j',fi];rw[List.take_add_one,geE hi,List.drop_append_of_le_length t'];rfl
def NY(c:UInt8)(hl:s.length<=1048576):ER s c=bN (BU c s):=by
 unfold ER
 obtain⟨y,hy,hq⟩:=DN (step:=FQ s c) (fun st=>∃a i:Nat,st.2.1=(a:Int)/\st.2.2=(i:Int)/\a<=i/\i<=s.length/\st.1.length<=i/\st.1++DA c (j' s (a:Int) (i:Int)) (s.drop i)=BU c s)
  (fun y=>∃a:Nat,y.2=(a:Int)/\a<=s.length/\y.1.length<=s.length/\y.1++[j' s (a:Int) (s.length:Int)]=BU c s) (fun st=>s.length-st.2.2.toNat) (by
  rintro⟨out,fr,ii⟩ ⟨a,i,I,h2,C,hi,ho,he⟩;simp only at I h2 ho he;subst I h2
  by_cases j:i<s.length
  .left;have hd:s.drop i=s[i]::s.drop (i+1):=hS j;have hg:s.getD i 0=s[i]:=Cl j 0;rw[hd,DA]at he
   have U:((s[i].toNat:Int)==(c.toNat:Int))=b5 (s[i]=c):=by
    rw[cm];simp only[beq_iff_eq,jn,←ev];omega
   by_cases J:s[i]=c
   .rw[if_pos J]at he;refine⟨(out++[j' s (a:Int) (i:Int)],((i+1:Nat):Int),((i+1:Nat):Int)),?_,⟨i+1,i+1,rfl,rfl,cw _,n',t',?_⟩,t'⟩
    .simp only[FQ,bS,j,decide_true,if_true,Aa,AB,fi,hg,J,beq_self_eq_true,(Z4 i)];rw[Z3 n',AB,Bl t',AB]
    .simp only;rw[ABl,cA];exact he
   .rw[if_neg J]at he;refine⟨(out,(a:Int),((i+1:Nat):Int)),?_,⟨a,i+1,rfl,rfl,n',n',by show out.length<=i+1;omega,?_⟩,t'⟩
    .simp only[FQ,bS,j,decide_true,if_true,Aa,AB,fi,hg,U,J,decide_false,ed,if_false,(Z4 i)]
    .simp only;rw[ABk C j];exact he
  .right;have R:i=s.length:=n'
   subst R;refine⟨(out,(a:Int)),by simp[FQ],a,rfl,C,ho,?_⟩;rw[j8,DA]at he;exact he) (s:=(([]:List L8),0,0)) ⟨0,0,rfl,rfl,cw _,eg _,p',by simp[j',BU]⟩
 obtain⟨a,I,h2,h3,h4⟩:=hq;obtain⟨o,y2⟩:=y;simp only at I h3 h4;subst I;rw[hy];simp only[dc];rw[Z3 n',AB,Bl t',AB,h4]
theorem PK(c:UInt8):Dq c=bN (Xl c):=id rfl
def ABg(h:Xl c=b9)(C:n<=100000000000000000):eL.wrap ((eL.wrap (10*(n:Int)))+(eL.wrap (iB.wrap ((c.toNat:Int)-48))))=((n*10+(c.toNat-48):Nat):Int):=by
 have I:=NR.1 h
 have j:iB.wrap ((c.toNat:Int)-48)=((c.toNat-48:Nat):Int):=by
  have:((c.toNat:Int)-48)=((c.toNat-48:Nat):Int):=n'
  rw[this];exact ADy n' n'
 rw[j,Z1 (n:=10*(n:Int)) n',Z1 (n:=((c.toNat-48:Nat):Int)) n',Z1 n'];omega
def nh(s t:L8)(ht:t.length<=18):∀(r:L8) (i n:Nat),t.drop i=r->i+r.length=t.length->n<10^i ->
  AE (EL s t) ((n:Int),(i:Int))=bN (if r.all Xl=b9 then .inl ((valF n r:Nat):Int)else .inr (0,b')):=by
 intro r
 induction r with
 | nil=>
  intro i n hd hi _;have:i=t.length:=by simpa using hi
  subst this;refine Ai ?_;simp[EL,Pn]
 | cons c r ih=>
  intro i n hd hi hn;rw[c6]at hi;have j:i<t.length:=n'
  have U:t.getD i 0=c:=by
   rw[k9];have:(t.drop i)[0]? = bN c:=by rw[hd];rfl
   rw[dT,kA]at this;rw[this];rfl
  have J:t.drop (i+1)=r:=by
   have:=congrArg List.tail hd
   rwa [List.tail_drop]at this
  by_cases I:Xl c=b9
  .have hp:=LF (show i<=17+1 by omega);have R:(10:Nat)^i<=10^17:=gr n' n';have ab:=NR.1 I
   rw[Aq (s':=(((n*10+(c.toNat-48):Nat):Int),((i+1:Nat):Int))) (by
    simp only[EL,bS,j,decide_true,if_true,Aa,AB,fi,U,PK,I,dc,bI,ed,if_false,(Z4 i),ABg I (show n<=100000000000000000 by omega)])]
   rw[ih (i+1) (n*10+(c.toNat-48)) J n' (by rw[fa];omega)];simp only[d',I,ca,OH]
  .have C:Xl c=b':=by simpa using I
   rw[Ai (r:=.inr (0,b')) (by
    simp only[EL,bS,j,decide_true,if_true,Aa,AB,fi,U,PK,C,dc,c8])]
   simp only[d',C,cn,ed,if_false]
theorem xJ:KY=EL:=id rfl
theorem LJ{s:L8}(hl:s.length<=1048576):Bo s=bN (CQ s):=by
 unfold Bo;cases s with
 |nil=>simp[CQ,en,h8,AB]
 | cons c r=>
  have h0:((c::r)==([]:L8))=false:=rfl;have U:AS 0 (c::r).length=true:=Dz n' p'
  have I:((((c::r).getD 0 0).toNat:Int)==45)=b5 (c=45):=by
   rw[cm];simp only[List.getD_cons_zero,beq_iff_eq,jn,←ev];show(c.toNat:Int)=45 ↔ c.toNat=45;omega
  simp only[h0,U,bX,AB,c8,ca,I]
  by_cases J:c=45
  .subst J;simp only[decide_true,if_true];have C:j' ((45:UInt8)::r) 1 ((((45:UInt8)::r).length:Nat):Int)=r:=by simp[j']
   rw[Gb n' t' n',AB,C,SA]
   by_cases hb:r.length<1\/18<r.length
   .have e:(b5 ((r.length:Int)<1)||b5 (18<(r.length:Int)))=b9:=t'
    rw[if_pos hb,e];rfl
   .have e:(b5 ((r.length:Int)<1)||b5 (18<(r.length:Int)))=b':=t'
    rw[if_neg hb,e];simp only[ed,if_false];have j:=nh ((45:UInt8)::r) r n' r 0 0 rfl n' p';rw[show((0:Nat):Int)=0 from rfl]at j;rw[j]
    by_cases hd:r.all Xl=b9
    .have R:=Su (l:=r) (n:=0) (a:=0) p' hd;have hv2:=LF (k:=0+r.length) n';have w:eL.wrap (0-((valF 0 r:Nat):Int))=-((valF 0 r:Nat):Int):=by rw[Z1 n'];omega
     have lt:b5 ((r.length:Int)<(((45:UInt8)::r).length:Nat))=b9:=t'
     simp only[hd,if_true,dc,w,lt,KL (n:=-((valF 0 r:Nat):Int)) ⟨n',n'⟩]
     by_cases he:c7 (-((valF 0 r:Nat):Int))=45::r
     .have:(c7 (-((valF 0 r:Nat):Int))==45::r)=b9:=by simpa using he
      simp only[he,beq_self_eq_true,bI,ed,if_false,if_true]
     .have:(c7 (-((valF 0 r:Nat):Int))==45::r)=b':=by simpa using he
      simp only[this,he,c8,if_true,if_false]
    .simp only[hd,ed,if_false,dc]
  .simp only[J,decide_false,ed,if_false];rw[PG J]
   by_cases hb:(c::r).length<1\/18<(c::r).length
   .have e:(b5 (((c::r).length:Int)<1)||b5 (18<((c::r).length:Int)))=b9:=by simp at hb ⊢;omega
    rw[if_pos hb,e];rfl
   .have e:(b5 (((c::r).length:Int)<1)||b5 (18<((c::r).length:Int)))=b':=by simp at hb ⊢;omega
    rw[if_neg hb,e];simp only[ed,if_false,xJ];have j:=nh (c::r) (c::r) n' (c::r) 0 0 rfl n' p';rw[show((0:Nat):Int)=0 from rfl]at j;rw[j]
    by_cases hd:(c::r).all Xl=b9
    .have R:=Su (l:=c::r) (n:=0) (a:=0) p' hd;have hv2:=LF (k:=0+(c::r).length) n';have lt:b5 (((c::r).length:Int)<((c::r).length:Int))=b':=p'
     simp only[hd,if_true,dc,lt,ed,if_false,KL (n:=((valF 0 (c::r):Nat):Int)) ⟨n',n'⟩]
     by_cases he:c7 ((valF 0 (c::r):Nat):Int)=c::r
     .have:(c7 ((valF 0 (c::r):Nat):Int)==c::r)=b9:=by simpa using he
      simp only[he,beq_self_eq_true,bI,ed,if_false,if_true]
     .have:(c7 ((valF 0 (c::r):Nat):Int)==c::r)=b':=by simpa using he
      simp only[this,he,c8,if_true,if_false]
    .simp only[hd,ed,if_false,dc]
def QJ{s:L8}(j:s.length<=1048576):Ma s=bN (CQ s):=by
 unfold Ma;rw[if_pos n']
def OY(h:(CQ s).2=b9):c7 (CQ s).1=s/\QY (CQ s).1:=by
 cases s with
 |nil=>simp[CQ,en,h8]at h
 | cons c r=>
  by_cases j:c=45
  .subst j;rw[SA]at h ⊢;split at h
   .cases h
   .rename_i hb;rw[if_neg hb];split at h
    .rename_i hd;rw[if_pos hd];split at h
     .rename_i he;rw[if_pos he];have C:=Su (l:=r) (n:=0) (a:=0) p' hd;have hv2:=LF (k:=0+r.length) n';exact⟨he,by show -9223372036854775808<=-((valF 0 r:Nat):Int);omega,by show -((valF 0 r:Nat):Int)<=9223372036854775807;omega⟩
     .cases h
    .cases h
  .rw[PG j]at h ⊢;split at h
   .cases h
   .rename_i hb;rw[if_neg hb];split at h
    .rename_i hd;rw[if_pos hd];split at h
     .rename_i he;rw[if_pos he];have C:=Su (l:=c::r) (n:=0) (a:=0) p' hd;have hv2:=LF (k:=0+(c::r).length) n';exact⟨he,by show -9223372036854775808<=((valF 0 (c::r):Nat):Int);omega,by show((valF 0 (c::r):Nat):Int)<=9223372036854775807;omega⟩
     .cases h
    .cases h
def yw(n:Nat)(a b:L8):valF n (a++b)=valF (valF n a) b:=by unfold valF;rw[List.foldl_append]
def ZA:∀(k u:Nat),u<10^(k+1)->valF 0 (b8 u)=u
 | 0,u,h=>by
  have h:u<10:=by simpa using h
  rw[e3 h,OH,Pn,dx];omega
 | k+1,u,h=>by
  by_cases c:u<10
  .rw[e3 c,OH,Pn,dx];omega
  .rw[b8,dif_neg c,yw,ZA k (u/10) (by rw[fa]at h;omega),OH,Pn,dx];omega
def Kl(u:Nat):c7 (u:Int)=b8 u:=by unfold c7;rw[if_neg n'];simp
variable{n:Int}
def nT(U:0<=n)(h1:n<=65520):CQ (c7 n)=(n,b9):=by
 obtain⟨u,rfl⟩:=ga U;rw[Kl];have J:=e6 u;have hn:=Oc 4 u n';have I:=LN u;have j:=RH u;have C:=ZA 4 u n';cases hd:b8 u with
 |nil=>rw[hd]at I;exact absurd I p'
 | cons c r=>
  rw[hd]at J j C I
  have R:c≠45:=fun e=>by
   subst e;have:Xl 45=true:=(db.1 j) 45 p';exact absurd this x'
  rw[PG R,if_neg n',if_pos j,C,if_pos (by rw[Kl,hd])]
def Sz{n:Int}(h0:-1000000000000000000<n)(h1:n<1000000000000000000):CQ (c7 n)=(n,b9):=by
 by_cases U:0<=n
 .obtain⟨u,rfl⟩:=ga U;rw[Kl];have R:=e6 u;have J:=Oc 17 u n';have I:=LN u;have j:=RH u;have C:=ZA 17 u n';cases hd:b8 u with
  |nil=>rw[hd]at I;exact absurd I p'
  | cons c r=>
   rw[hd]at R j C I
   have hc:c≠45:=fun e=>by
    subst e;have:Xl 45=true:=(db.1 j) 45 p';exact absurd this x'
   rw[PG hc,if_neg n',if_pos j,C,if_pos (by rw[Kl,hd])]
 .obtain⟨u,hu⟩:=ga (show 0<=-n by omega);obtain rfl:n=-(u:Int):=n'
  have e:c7 (-(u:Int))=45::b8 u:=by unfold c7;rw[if_pos n'];simp
  rw[e];have R:=e6 u;have J:=Oc 17 u n';have I:=LN u;have j:=RH u;have C:=ZA 17 u n';rw[SA,if_neg n',if_pos j,C,if_pos e]
def KT(e:AU):Bool:=((b5 (0<=e.Day)&&b5 (e.Day<=100000))&&KZ e.What)&&(b5 (-1000000<=e.Value)&&b5 (e.Value<=1000000))
def oG(e:AU):Ix e=bN (KT e):=by
 unfold Ix KT;simp only[NT,Dr,JP,dc,bo,bR,bX,AB]
def Pk(e:AU):FJ e=bN (KT e):=by
 unfold FJ KT;simp only[FV,JY,dc,bo,bR,bX,AB]
def XT(h:KZ s=b9):1<=s.length/\s.length<=12:=by
 unfold KZ at h;simp only[kb,jn]at h;exact⟨h.1,h.2.1⟩
variable{e:AU}
def TB(h:KT e=b9):0<=e.Day/\e.Day<=100000/\e.What.length<=12/\-1000000<=e.Value/\e.Value<=1000000:=by
 unfold KT at h;simp only[kb,jn]at h;obtain⟨⟨⟨J,h2⟩,I⟩,C,j⟩:=h;exact⟨J,h2,(XT I).2,C,j⟩
def IE(e:AU):L8:=(((c7 e.Day++[32])++e.What)++[32])++c7 e.Value
def Ms(h:KT e=b9):(IE e).length<=60:=by
 obtain⟨U,h2,R,J,I⟩:=TB h;have C:=Fv (n:=e.Day) ⟨n',n'⟩;have j:=Fv (n:=e.Value) ⟨n',n'⟩;simp only[IE,cd,c6,ew];omega
def PJ(h:KT e=b9):EQ e=bN (IE e):=by
 obtain⟨U,h2,R,J,I⟩:=TB h;have C:=Fv (n:=e.Day) ⟨n',n'⟩;have j:=Fv (n:=e.Value) ⟨n',n'⟩;unfold EQ;rw[KL (n:=e.Day) ⟨n',n'⟩,KL (n:=e.Value) ⟨n',n'⟩];simp only[dc];rw[As t',AB,As t',AB,As t',AB,As t',AB];rfl
def Zd(h:KT e=b9):Ei e=bN (IE e):=by
 obtain⟨U,h2,R,J,I⟩:=TB h;have C:=Fv (n:=e.Day) ⟨n',n'⟩;have j:=Fv (n:=e.Value) ⟨n',n'⟩;unfold Ei;rw[Kv (n:=e.Day) ⟨n',n'⟩,Kv (n:=e.Value) ⟨n',n'⟩];simp only[dc];rw[As t',AB,As t',AB,As t',AB,As t',AB];rfl
theorem qQ(w:L8):NK w (w.length:Int)=Ef w:=id rfl
def qR{w:L8}(J:w.length<=1099511627776){n:Int}(I:0<=n)(j:n<=65520):∃s,AE (Ef w) (n,0)=bN s/\0<=s/\s<=65520 :=
 DN (step:=Ef w) (fun s=>0<=s.1/\s.1<=65520/\∃i:Nat,s.2=(i:Int)/\i<=w.length) (fun s=>0<=s/\s<=65520) (fun s=>w.length-s.2.toNat) (by
  rintro⟨s,ii⟩ ⟨j,h2,i,rfl,hi⟩;simp only at j h2
  by_cases h:i<w.length
  .left;have hb:=AGs (w.getD i 0);have C:eL.wrap (31*s)=31*s:=Z1 n';have w2:eL.wrap (31*s+((w.getD i 0).toNat:Int))=31*s+((w.getD i 0).toNat:Int):=Z1 n';have t1:(31*s+((w.getD i 0).toNat:Int)).tmod 65521=(31*s+((w.getD i 0).toNat:Int))%65521:=ct n';simp only[Ef,bS,h,decide_true,if_true,Aa,AB,fi,(Z4 i),Oa (show(65521:Int)≠0 by decide),C,w2,t1];exact⟨_,rfl,⟨by show 0<=_%65521;omega,by show _%65521<=65520;omega,i+1,rfl,n'⟩,by simp only[fi];omega⟩
  .right;exact⟨s,by simp[Ef,h],j,h2⟩) (s:=(n,0)) ⟨I,j,0,rfl,n'⟩
def zR(h:KT e=b9)(R:0<=n)(J:n<=65520):∃s,Fe n (IE e)=bN s/\JF n e=bN s/\0<=s/\s<=65520:=by
 have j:eL.wrap (n+23)=n+23:=Z1 n';have t1:(n+23).tmod 65521=(n+23)%65521:=ct n';have I:=Ms h;obtain⟨s,hs,C,s1⟩:=qR (w:=IE e) n' (n:=(n+23)%65521) n' n';refine⟨s,?_,?_,C,s1⟩
 .unfold Fe;rw[Oa (show(65521:Int)≠0 by decide),AB,j,t1,hs];rfl
 .unfold JF;rw[Oa (show(65521:Int)≠0 by decide),AB,Zd h];simp only[dc,qQ,j,t1,hs]
def Cn(last:Int)(e:AU):Int:=(JF last e).getD 0
def Lu(h:KT e=b9)(R:0<=n)(J:n<=65520):Fe n (IE e)=bN (Cn n e)/\JF n e=bN (Cn n e)/\0<=Cn n e/\Cn n e<=65520:=by
 obtain⟨s,h2,j,I,C⟩:=zR h R J;have:Cn n e=s:=by unfold Cn;rw[j];rfl
 rw[this];exact⟨h2,j,I,C⟩
def aU(h:KT e=b9)(J:0<=n)(I:n<=65520):If n e=bN (((IE e++[32])++c7 n)++[10]):=by
 have C:=Ms h;have j:=Fv (n:=n) ⟨n',n'⟩;unfold If;rw[PJ h,KL (n:=n) ⟨n',n'⟩];simp only[dc];rw[As t',AB,As t',AB,As t',AB]
def ic(h:KT e=b9)(J:0<=n)(I:n<=65520):MF e n=bN (((IE e++[32])++c7 n)++[10]):=by
 have C:=Ms h;have j:=Fv (n:=n) ⟨n',n'⟩;unfold MF;rw[Zd h,Kv (n:=n) ⟨n',n'⟩];simp only[dc];rw[As t',AB,As t',AB,As t',AB]
def NW(st:Int)(e:AU):L8:=(IE e++[32])++c7 st
def Ft:Int->List AU->L8
 |_,[]=>[]
 |last,e::es=>NW (Cn last e) e++10::Ft (Cn last e) es
def xY(h:KT e=b9){st:Int}(J:0<=st)(I:st<=65520):1<=(NW st e).length/\(NW st e).length<=100:=by
 have C:=Ms h;have j:=Fv (n:=st) ⟨n',n'⟩;simp only[NW,cd,List.length_singleton];omega
def iY:∀(es:List AU) (last:Int),(∀e,e∈es->KT e=b9)->0<=last->last<=65520->es.length<=(Ft last es).length/\(Ft last es).length<=101*es.length
 |[],_,_,_,_=>⟨cw _,by simp[Ft]⟩
 | e::es,last,I,U,R=>by
  have j:=I e p';obtain⟨_,_,C,s1⟩:=Lu j U R;have ih:=iY es (Cn last e) (fun x J=>I x (by simp[J])) C s1;have hl:=xY j C s1;simp only[Ft,cd,c6];omega
def XO(last I:Int)(j C p2 p3:L8):Option (AU×Int) :=if((((CQ j).2&&(CQ p2).2)&&KT ⟨(CQ j).1,C,(CQ p2).1⟩)&&b5 (I<=(CQ j).1))&&b5 (c7 (Cn last ⟨(CQ j).1,C,(CQ p2).1⟩)=p3)then bN (⟨(CQ j).1,C,(CQ p2).1⟩,Cn last ⟨(CQ j).1,C,(CQ p2).1⟩)else hV
def psP (last j:Int):List L8->Option (AU×Int)
 |[I,C,p2,p3]=>XO last j I C p2 p3
 |_=>hV
variable{j:Nat}{ps:List L8}
def AAE{last j:Int}(h:ps.length≠4):psP last j ps=hV:=by
 unfold psP;split
 .exact absurd rfl h
 .rfl
def Vn(last j:Int)(line:L8):Option (AU×Int):=psP last j (BU 32 line)
def Np(log:L8)(i:Nat)(last j:Int):Option (Nat×AU×Int) :=match hQ (log.drop i) [10]with
 |(line,_,b9)=>(Vn last j line).map fun q=>(i+line.length+1,q.1,q.2)
 |_=>hV
def EO(es:List AU):Int:=if es.length=0 then 0 else(es.getD (es.length-1) ay).Day
def bc(es:List AU)(e:AU):EO (es++[e])=e.Day:=by
 unfold EO;rw[if_neg p'];simp
def nA{log:L8}{i:Nat}{last R:Int}{i':Nat}{e:AU}{m:Int}(h:Np log i last R=bN (i',e,m))(h0:0<=last)(h1:last<=65520)(hi:i<=log.length):
  i<i'/\i'<=log.length/\0<=m/\m<=65520/\KT e=b9/\R<=e.Day:=by
 unfold Np at h;split at h
 .rename_i line x U;rw[Option.map_eq_some_iff]at h;obtain⟨⟨e',m'⟩,C,he⟩:=h;simp only[Prod.mk.injEq]at he;obtain⟨rfl,rfl,rfl⟩:=he;unfold Vn psP at C;split at C
  .unfold XO at C;split at C
   .rename_i hb;cases C
    simp only[kb,jn]at hb;obtain⟨⟨⟨_,j⟩,I⟩,_⟩:=hb;obtain⟨_,_,s0,s1⟩:=Lu j h0 h1;refine⟨n',?_,s0,s1,j,I⟩;rcases KM 10 (log.drop i)with⟨_,hn⟩|⟨a,b,J,hn,_⟩
    .rw[Ui hn]at U;cases U
    .rw[J,RI hn]at U;cases U
     have:=congrArg e4 J;simp only[e7,cd,c6]at this;omega
   .cases C
  .cases C
 .cases h
def Rz (log:L8):Nat->List AU×Nat×Int->List AU×Nat×Int
 |0,s=>s
 | f+1,s=>match Np log s.2.1 s.2.2 (EO s.1)with
  |none=>s
  |some q=>Rz log f (s.1++[q.2.1],q.1,q.2.2)
def EI (log:L8):List AU×Nat×Int:=Rz log (log.length+1) ([],0,0)
structure de(log:L8)(s:List AU×Nat×Int):Prop where
 at_:s.2.1<=log.length
 few:s.1.length<=s.2.1
 lo:0<=s.2.2
 hi:s.2.2<=65520
 ok:∀e,e∈s.1->KT e=b9
def de.step{log:L8}{s:List AU×Nat×Int}(h:de log s){q:Nat×AU×Int}(C:Np log s.2.1 s.2.2 (EO s.1)=bN q):de log (s.1++[q.2.1],q.1,q.2.2):=by
 obtain⟨i',e,m⟩:=q;obtain⟨h1,h2,R,J,I,U⟩:=nA C h.lo h.hi h.at_;have:=h.few;refine⟨h2,t',R,J,fun x j=>?_⟩;rcases dU.1 j with j|j
 .exact h.ok x j
 .rw[h7.1 j];exact I
def iM{log:L8}:∀(f:Nat) {s:List AU×Nat×Int},de log s->de log (Rz log f s)
 |0,_,h=>h
 | f+1,s,h=>by
  unfold Rz;split
  .exact h
  .rename_i q j;exact iM f (h.step j)
def XA(log:L8):de log ([],0,0):=⟨eg _,cw _,Int.le_refl _,x',fun e he=>by simp at he⟩
def QC(log:L8):de log (EI log):=iM _ (XA log)
def XJ{σ ρ:Type}{step:σ->Option (σ⊕ρ)}{log:L8}(E:List AU×Nat×Int->σ)(R:List AU×Nat×Int->ρ)
  (hs:∀s,de log s->step (E s)=match Np log s.2.1 s.2.2 (EO s.1)with
   |none=>bN (.inr (R s))
   |some q=>bN (.inl (E (s.1++[q.2.1],q.1,q.2.2)))) :
  ∀(f:Nat) (s:List AU×Nat×Int),de log s->log.length<f+s.2.1->AE step (E s)=bN (R (Rz log f s))
 |0,s,h,I=>by have:=h.at_;omega
 | f+1,s,h,I=>by
  have C:=hs s h;unfold Rz;cases j:Np log s.2.1 s.2.2 (EO s.1)with
  |none=>rw[j]at C;exact Ai C
  | some q=>
   rw[j]at C;rw[Aq C];obtain⟨g1,_⟩:=nA (i':=q.1) (e:=q.2.1) (m:=q.2.2) j h.lo h.hi h.at_;exact XJ E R hs f _ (h.step j) (by show log.length<f+q.1;omega)
def ABf(h:s.drop i=a++r)(I:j<a.length):i+j<s.length/\s.getD (i+j) 0=a.getD j 0:=by
 have C:=congrArg e4 h;simp only[e7,cd]at C;refine⟨n',?_⟩;have:=congrArg (fun l=>l[j]?) h;simp only[dT]at this;rw[k9,this,fx I,k9]
theorem pL{R:Hx}{i:Nat}{a r:L8}(hd:R.s_.drop i=a++r)(J:10 ∉ a)(hr:r=[]\/∃b,r=10::b)(hi:i<=R.s_.length)(hl:R.s_.length<=1048576)(t2:Bool):
  AE (Dh R t2) (i:Int)=bN ((i+a.length:Nat):Int):=by
 have hlen:=congrArg e4 hd;simp only[e7,cd]at hlen;have:=Mv (step:=Dh R t2) (fun j=>((i+j:Nat):Int)) a.length (r:=((i+a.length:Nat):Int)) (fun j I=>?_) ?_
 .exact this
 .obtain⟨U,h2⟩:=ABf hd I
  have C:(((a.getD j 0).toNat:Int)==10)=b':=by
   rw[beq_eq_false_iff_ne];intro c;refine J ?_;have hm:a.getD j 0∈a:=by rw[k9,geE I];exact j6 I
   have:a.getD j 0=10:=by rw[←ev];exact Int.ofNat.inj c
   rwa [this]at hm
  simp only[Dh,bS,U,decide_true,Aa,bI,bX,AB,fi,h2,C,c8,hT,if_true,AW (show i+j<9223372036854775807 by omega),fB]
 .rcases hr with rfl|⟨b,rfl⟩
  .have e:¬ (i+a.length<R.s_.length):=by simp at hlen;omega
   simp only[Dh,bS,e,decide_false,c8,ds,AB,cn,ed,if_false]
  .simp only[c6]at hlen;have U:i+a.length<R.s_.length:=n'
   have h2:R.s_.getD (i+a.length) 0=10:=by
    have:=congrArg (fun l=>l[a.length]?) hd;simp only[dT]at this;rw[k9,this,e5 (cw _)];simp
   have aa:(((10:UInt8).toNat:Int)==10)=true:=rfl;simp only[Dh,bS,U,decide_true,Aa,bI,bX,AB,fi,h2,aa,df,ed,if_false]
def ABn{s a r:L8}{i:Nat}(h:s.drop i=a++r):j' s (i:Int) ((i+a.length:Nat):Int)=a:=by
 simp only[j',fi];rw[List.drop_take,h];simp
def ABm:j' s (i:Int) (s.length:Int)=s.drop i:=by
 simp[j']
def Ws(log:L8)(s:List AU×Nat×Int):Hx:=⟨log,(s.2.1:Int),s.2.2,s.1⟩
def ABj{log:L8}{s:List AU×Nat×Int}(j:s.1.length<=1048576):Ff (Ws log s)=bN (EO s.1):=by
 unfold Ff EO Ws
 by_cases h:s.1.length=0
 .simp[h]
 .have e:(((s.1.length:Nat):Int)==0)=b':=by rw[beq_eq_false_iff_ne];omega
  have w:eL.wrap ((s.1.length:Int)-1)=((s.1.length-1:Nat):Int):=by rw[Z1 n'];omega
  simp only[e,ed,if_false,w,if_neg h,fi];rw[Z2 n',AB]
variable{C p2 p3:L8}
theorem iq{j:L8}:Pf 32 [C,j,p2,p3]=C++32::(j++32::(p2++32::p3)):=rfl
def Zn{j:L8}(h:BU 32 a=[C,j,p2,p3]):a=C++32::(j++32::(p2++32::p3)):=by
 have:=NH 32 a [];rw[gb]at this;rw[←this,←iq,←h];rfl
def bG(h:ps.length=4):∃C j p2 p3,ps=[C,j,p2,p3]:=by
 match ps,h with
 |[C,j,p2,p3],_=>exact⟨C,j,p2,p3,rfl⟩
theorem AEs{log:L8}{s:List AU×Nat×Int}(h:de log s)(hl:log.length<=1048576):
  JL (Ws log s)=match Np log s.2.1 s.2.2 (EO s.1)with
   |none=>bN (b',Ws log s)
   |some q=>bN (b9,Ws log (s.1++[q.2.1],q.1,q.2.2)):=by
 obtain⟨es,i,last⟩:=s;have hi:i<=log.length:=h.at_;have a1:es.length<=i:=h.few;have h0:0<=last:=h.lo;have h1:last<=65520:=h.hi;have aj:=ABj (log:=log) (s:=(es,i,last)) (by show es.length<=1048576;omega);unfold JL Jw Np;simp only;rcases KM 10 (log.drop i)with⟨_,hn⟩|⟨a,b,I,hn,_⟩
 .have hw:=pL (R:=Ws log (es,i,last)) (a:=log.drop i) (r:=[]) (by simp[Ws]) hn (.inl rfl) hi hl b';have e:i+(log.drop i).length=log.length:=t'
  rw[e]at hw;rw[show(Ws log (es,i,last)).at_=(i:Int)from rfl,hw,Ui hn];have e2:b5 (((Ws log (es,i,last)).s_.length:Int)<=((log.length:Nat):Int))=b9:=by simp[Ws]
  simp only[dc,e2,if_true]
 .have hw:=pL (R:=Ws log (es,i,last)) (a:=a) (r:=10::b) I hn (.inr ⟨b,rfl⟩) hi hl b';have hlen:=congrArg e4 I;simp only[e7,cd,c6]at hlen;rw[show(Ws log (es,i,last)).at_=(i:Int)from rfl,show(Ws log (es,i,last)).s_=log from rfl,show(Ws log (es,i,last)).stamp_=last from rfl,show(Ws log (es,i,last)).list_=es from rfl,hw,I,RI hn];have e2:b5 ((log.length:Int)<=((i+a.length:Nat):Int))=b':=t'
  simp only[dc,e2,ed,if_false];rw[Z3 n',AB,ABn I,NY 32 n'];simp only[dc];unfold Vn
  by_cases ad:(BU 32 a).length=4
  .obtain⟨C,j,p2,p3,ab⟩:=bG ad;have ha:=Zn ab;have ax:=congrArg e4 ha;simp only[cd,c6]at ax;rw[ab];have q0:[C,j,p2,p3].getD 0 ay=C:=rfl;have q1:[C,j,p2,p3].getD 1 ay=j:=rfl;have q2:[C,j,p2,p3].getD 2 ay=p2:=rfl;have k0:AS 0 [C,j,p2,p3].length=true:=rfl;have k1:AS 1 [C,j,p2,p3].length=true:=rfl;have k2:AS 2 [C,j,p2,p3].length=true:=rfl;have k4:((([C,j,p2,p3].length:Nat):Int)==4)=true:=rfl;simp only[k4,bI,ed,if_false,k0,k1,k2,q0,q1,q2,AB];rw[LJ (s:=C) n',LJ (s:=p2) n'];simp only[dc,oG,aj,bo,bX,AB,bR];unfold psP XO;simp only;generalize hd:(CQ C).1=d;generalize hv:(CQ p2).1=v
   by_cases U:((((CQ C).2&&(CQ p2).2)&&KT ⟨d,j,v⟩)&&b5 (EO es<=d))=b9
   .have J:((((!(CQ C).2)||(!(CQ p2).2))||(!(KT ⟨d,j,v⟩)))||b5 (d<EO es))=b':=by
     simp only[kb,jn]at U;obtain⟨⟨⟨c1,c2⟩,c3⟩,c4⟩:=U;simp only[c1,c2,c3,bI,Bool.or_self,c',decide_eq_false_iff_not];omega
    rw[U,J];simp only[kb,jn]at U;obtain⟨⟨⟨c1,c2⟩,c3⟩,c4⟩:=U;obtain⟨s1,s2,s3,s4⟩:=Lu c3 h0 h1;have e0:=(OY c1).1;have e2:=(OY c2).1;rw[hd]at e0;rw[hv]at e2;simp only[ed,if_false,PJ c3,dc,s1,aU c3 s3 s4]
    have w:eL.wrap (((i+a.length:Nat):Int)+1)=((i+(a++[10]).length:Nat):Int):=by
     rw[AW n'];simp[fB]
    rw[w,Gb n' n' t',AB,ABn (a:=a++[10]) (r:=b) (by rw[I];simp)]
    have heq:((((IE ⟨d,j,v⟩++[32])++c7 (Cn last ⟨d,j,v⟩))++[10])==a++[10])=b5 (c7 (Cn last ⟨d,j,v⟩)=p3):=by
     rw[cm,beq_iff_eq,jn,List.append_cancel_right_eq,ha];simp only[IE,e0,e2,cA,List.singleton_append,eo,gb];constructor
     .intro h;have h:=ef h;have h:=ef (ej h).2;have h:=ef (ej h).2;exact(ej h).2
     .intro h;rw[h]
    rw[heq]
    by_cases hp:c7 (Cn last ⟨d,j,v⟩)=p3
    .simp only[hp,decide_true,bI,ed,if_false,hT,if_true,hH,dc];rw[Bl t',AB];rw[AW (show i+a.length<9223372036854775807 by omega)];rfl
    .simp only[hp,decide_false,c8,if_true,df,ed,if_false,eu,dc]
   .have ao:=hE.2 U
    have J:((((!(CQ C).2)||(!(CQ p2).2))||(!(KT ⟨d,j,v⟩)))||b5 (d<EO es))=b9:=by
     have e:b5 (d<EO es) = !decide (EO es<=d):=by
      by_cases c:EO es<=d
      .simp[c,j2.2 c]
      .simp[c,Int.not_le.1 c]
     rw[e,←hD,←hD,←hD,ao];rfl
    rw[ao,J];simp only[if_true,cn,ed,if_false,eu,dc]
  .have k4:(((((BU 32 a).length:Nat):Int))==4)=b':=by rw[beq_eq_false_iff_ne];omega
   simp only[k4,c8,if_true,AAE ad,eu,dc]
def rG{log:L8}(j:log.length<=1048576):Ie log=bN (Ws log (EI log)):=by
 unfold Ie
 exact XJ (step:=IM) (log:=log) (fun s=>Ws log s) (fun s=>Ws log s) (fun s hs=>by
  show(JL (Ws log s)).bind _=_;rw[AEs hs j];cases Np log s.2.1 s.2.2 (EO s.1)with
  |none=>rfl
  |some q=>rfl) (log.length+1) ([],0,0) (XA log) (by show log.length<log.length+1+0;omega)
def ADQ{a b c o t z:Bool}(h:(c&&z)=b'):(((((a&&b)&&c)&&o)&&t)&&z)=b':=by
 revert h;cases a<;>cases b<;>cases c<;>cases o<;>cases t<;>cases z<;>simp
theorem VQ{line:L8}(hl:line.length<=1048576):
  ∃ e m ok,Fw line=bN (e,m,ok)/\∀last day:Int,0<=last->last<=65520 ->
   ((ok&&b5 (day<=e.Day))=b9->KT e=b9) /\
   Vn last day line=if(ok&&b5 (day<=e.Day))&&b5 (m=Cn last e)then bN (e,m)else hV:=by
 unfold Fw Vn;rw[Ue n'];simp only[dc]
 by_cases R:(BU 32 line).length=4
 .obtain⟨I,j,p2,p3,J⟩:=bG R;have ha:=Zn J;have ad:=congrArg e4 ha;simp only[cd,c6]at ad;rw[J];have q0:[I,j,p2,p3].getD 0 ay=I:=rfl;have q1:[I,j,p2,p3].getD 1 ay=j:=rfl;have q2:[I,j,p2,p3].getD 2 ay=p2:=rfl;have q3:[I,j,p2,p3].getD 3 ay=p3:=rfl;have k0:AS 0 [I,j,p2,p3].length=true:=rfl;have k1:AS 1 [I,j,p2,p3].length=true:=rfl;have k2:AS 2 [I,j,p2,p3].length=true:=rfl;have k3:AS 3 [I,j,p2,p3].length=true:=rfl;have k4:((([I,j,p2,p3].length:Nat):Int)==4)=true:=rfl;simp only[k4,bI,ed,if_false,k0,k1,k2,k3,q0,q1,q2,q3,AB];rw[QJ (s:=I) n',QJ (s:=p2) n',QJ (s:=p3) n'];simp only[dc,Pk,bo,bX,AB,bR];refine⟨_,_,_,rfl,fun last day h0 h1=>?_⟩;unfold psP XO;simp only;generalize hd:(CQ I).1=d;generalize hv:(CQ p2).1=v;refine⟨fun h=>?_,?_⟩
  .simp only[kb]at h;exact h.1.2
  .by_cases C:KT ⟨d,j,v⟩=b9
   .obtain⟨_,_,s3,s4⟩:=Lu C h0 h1
    by_cases U:c7 (Cn last ⟨d,j,v⟩)=p3
    .have hr:CQ p3=(Cn last ⟨d,j,v⟩,b9):=by rw[←U];exact nT s3 s4
     simp only[hr,U,decide_true,cI]
    .have hn:((CQ p3).2&&b5 ((CQ p3).1=Cn last ⟨d,j,v⟩))=b':=by
      cases c:(CQ p3).2 with
      |false=>rfl
      | true=>
       rw[ca,decide_eq_false_iff_not];intro e;exact U (by rw[←e];exact(OY c).1)
     have ab:((((((CQ I).2&&(CQ p2).2)&&(CQ p3).2)&&KT ⟨d,j,v⟩)&&b5 (day<=d))&&b5 ((CQ p3).1=Cn last ⟨d,j,v⟩))=false:=ADQ hn;simp only[U,decide_false,df,ed,if_false];rw[ab];rfl
   .have C:=hE.2 C;simp only[C,df,cn,ed,if_false]
 .have k4:(((((BU 32 line).length:Nat):Int))==4)=b':=by rw[beq_eq_false_iff_ne];omega
  simp only[k4,c8,if_true,AAE R];refine⟨_,_,_,rfl,fun last day _ _=>⟨fun h=>?_,?_⟩⟩
  .simp at h
  .simp
def jw{log:L8}{s:List AU×Nat×Int}(h:de log s)(hl:log.length<=1048576):
  GO log (s.1,(s.2.1:Int),s.2.2,EO s.1)=match Np log s.2.1 s.2.2 (EO s.1)with
   |none=>bN (.inr (s.1,(s.2.1:Int),s.2.2))
   |some q=>bN (.inl (s.1++[q.2.1],(q.1:Int),q.2.2,EO (s.1++[q.2.1]))):=by
 obtain⟨es,i,last⟩:=s;have hi:i<=log.length:=h.at_;have ab:es.length<=i:=h.few;have h0:0<=last:=h.lo;have h1:last<=65520:=h.hi;unfold GO Np;simp only;rw[Z3 n',AB,ABm,oX t'];simp only[dc];rcases KM 10 (log.drop i)with⟨_,R⟩|⟨a,b,J,R,_⟩
 .rw[Ui R];obtain⟨e,m,ok,he,_⟩:=VQ (line:=log.drop i) t';simp only[he,dc,c8,ds,bI,c',AB,if_true]
 .have hlen:=congrArg e4 J;simp only[e7,cd,c6]at hlen;rw[J,RI R];obtain⟨e,m,ok,he,U⟩:=VQ (line:=a) n';obtain⟨j,U⟩:=U last (EO es) h0 h1;simp only[he,dc,U,bI,c']
  by_cases C:(ok&&b5 (EO es<=e.Day))=b9
  .have j:=j C;obtain⟨s1,s2,s3,s4⟩:=Lu j h0 h1
   have I:((!ok)||b5 (e.Day<EO es))=b':=by
    simp only[kb,jn]at C;simp only[C.1,bI,c',decide_eq_false_iff_not];omega
   simp only[I,C,s2,bo,bX,AB,bR,c',ca]
   by_cases hm:m=Cn last e
   .have e1:(m==Cn last e)=b9:=by rw[hm];exact beq_self_eq_true _
    simp only[e1,hm,decide_true,bI,ed,if_false,if_true,hH];rw[Bl t',AB,bc,AW (show a.length<9223372036854775807 by omega),Z1 n'];simp[fB]
   .have e1:(m==Cn last e)=false:=beq_eq_false_iff_ne.2 hm;simp only[e1,hm,decide_false,c8,if_true,ed,if_false,eu]
  .have C:=hE.2 C
   have I:((!ok)||b5 (e.Day<EO es))=b9:=by
    have e2:b5 (e.Day<EO es) = !decide (EO es<=e.Day):=by
     by_cases c:EO es<=e.Day
     .simp[c,j2.2 c]
     .simp[c,Int.not_le.1 c]
    rw[e2,←hD,C];rfl
   simp only[I,C,bI,c',AB,ds,if_true,cn,ed,if_false,eu];rfl
def qg{log:L8}(j:log.length<=1048576):Ip log=bN ((EI log).1,((EI log).2.1:Int),(EI log).2.2):=by
 unfold Ip;have:=XJ (step:=GO log) (log:=log) (fun s=>(s.1,(s.2.1:Int),s.2.2,EO s.1)) (fun s=>(s.1,(s.2.1:Int),s.2.2)) (fun s hs=>jw hs j) (log.length+1) ([],0,0) (XA log) (by show log.length<log.length+1+0;omega);rw[show AE (GO log) (([]:List AU),0,0,0)=_ from this];rfl
def Gu (log:L8):Int:=if 4000<log.length then 5 else if(EI log).2.1=log.length then 0 else 8
def WJ{log:L8}(h:Gu log=0):log.length<=4000/\(EI log).2.1=log.length/\(EI log).1.length<=4000:=by
 unfold Gu at h;split at h
 .exact absurd h x'
 .split at h
  .rename_i j h2;have:=(QC log).few;exact⟨n',h2,n'⟩
  .exact absurd h x'
def Qv{log:L8}(C:log.length<=1048576):∃r,Ea log=bN (r,Gu log)/\(Gu log=0->r=Ws log (EI log)):=by
 unfold Ea Gu
 by_cases h:4000<log.length
 .have e:b5 ((4000:Int)<(log.length:Int))=true:=decide_eq_true n';simp only[e,if_true,if_pos h];exact⟨_,rfl,fun c=>absurd c x'⟩
 .have e:b5 ((4000:Int)<(log.length:Int))=false:=decide_eq_false n';simp only[e,ed,if_false,if_neg h,rG C,dc]
  by_cases h2:(EI log).2.1=log.length
  .have j:((Ws log (EI log)).at_==(log.length:Int))=b9:=by rw[beq_iff_eq];show(((EI log).2.1:Nat):Int)=_;rw[h2]
   simp only[j,bI,ed,if_false,if_pos h2];exact⟨_,rfl,fun _=>rfl⟩
  .have j:((Ws log (EI log)).at_==(log.length:Int))=b':=by rw[beq_eq_false_iff_ne];show(((EI log).2.1:Nat):Int)≠_;omega
   simp only[j,c8,if_true,if_neg h2];exact⟨_,rfl,fun c=>absurd c x'⟩
def Rm{log:L8}(C:log.length<=1048576):∃es last,Fm log=bN (es,last,Gu log)/\(Gu log=0->es=(EI log).1/\last=(EI log).2.2)/\(Gu log≠0->es=[]):=by
 unfold Fm Gu;have hi:=(QC log).at_
 by_cases h:4000<log.length
 .have e:b5 ((4000:Int)<(log.length:Int))=true:=decide_eq_true n';simp only[e,if_true,if_pos h];exact⟨_,_,rfl,fun c=>absurd c x',fun _=>rfl⟩
 .have e:b5 ((4000:Int)<(log.length:Int))=false:=decide_eq_false n';simp only[e,ed,if_false,if_neg h,qg C,dc]
  by_cases h2:(EI log).2.1=log.length
  .have j:b5 (((EI log).2.1:Int)<(log.length:Int))=false:=decide_eq_false n';simp only[j,ed,if_false,if_pos h2];exact⟨_,_,rfl,fun _=>⟨rfl,rfl⟩,fun c=>absurd rfl c⟩
  .have j:b5 (((EI log).2.1:Int)<(log.length:Int))=true:=decide_eq_true n';simp only[j,if_true,if_neg h2];exact⟨_,_,rfl,fun c=>absurd c x',fun _=>rfl⟩
def RT{log:L8}(j:log.length<=1048576):∃es,EY log=bN (es,Gu log)/\(Gu log=0->es=(EI log).1)/\(Gu log≠0->es=[]):=by
 unfold EY;obtain⟨es,last,I,h2,C⟩:=Rm j;rw[I];exact⟨es,rfl,fun c=>(h2 c).1,C⟩
def Vd(x:Star):Bool:=((((KZ x.Name&&(b5 (0<=x.Ascend)&&b5 (x.Ascend<=86399)))&&(b5 (-324000<=x.Decl)&&b5 (x.Decl<=324000)))&&(b5 (-2000<=x.Bright)&&b5 (x.Bright<=20000)))&&(b5 (-2000<=x.Faint)&&b5 (x.Faint<=20000)))&&b5 (x.Bright<=x.Faint)
def il(x:Star):Kg x=bN (Vd x):=by
 unfold Kg Vd;simp only[Es,Ih,Bv,Dr,JP,dc,bo,bR,bX,AB]
def iw(x:Star):Kq x=bN (Vd x):=by
 unfold Kq Vd;simp only[Ba,FV,JY,dc,bo,bR,bX,AB,Bool.and_assoc]
def okS(l:List Star)(i:Nat):Bool:=Vd (l.getD i ay) && !(b5 (0<i) && !(cf (l.getD (i-1) ay).Name (l.getD i ay).Name))
def KG(l:List Star):Bool:=(cb l.length).all (okS l)
variable{l:List Star}
def AAv(U:l.length<=1099511627776)(hi:i<l.length):JA l (i:Int)=bN (if okS l i=b9 then .inl ((i+1:Nat):Int)else .inr (.inr b')):=by
 simp only[JA,Aa,hi,decide_true,AB,bS,if_true,fi,(Z4 i),il,dc,bo,bR,bX];unfold okS
 by_cases j:0<i
 .have J:b5 ((0:Int)<(i:Int))=b9:=by simpa using j
  have I:b5 (0<i)=b9:=by simpa using j
  have R:eL.wrap ((i:Int)-1)=((i-1:Nat):Int):=by rw[Z1 n'];omega
  have C:AS ((i-1:Nat):Int) l.length=b9:=by rw[Aa];simp;omega
  simp only[J,I,R,C,bX,AB,ca,fi];generalize Vd (l.getD i ay)=A;generalize cf (l.getD (i-1) ay).Name (l.getD i ay).Name=B;cases A<;>cases B<;>rfl
 .have J:b5 ((0:Int)<(i:Int))=b':=by simpa using j
  have I:b5 (0<i)=b':=by simpa using j
  simp only[J,I,cn,df,c8,ds,AB,fA,cI];generalize Vd (l.getD i ay)=A;cases A<;>rfl
def oH{l:List Star}(j:l.length<=1099511627776):Lm l=bN (KG l&&b5 (l.length<=60)):=by
 unfold Lm;rw[Gw (step:=JA l) (okS l) l.length (KG l) (yes:=.inl ()) (no:=.inr b') (by unfold KG;simp) (fun i hi=>AAv j hi) (by simp[JA])];have e:b5 ((l.length:Int)<=60)=b5 (l.length<=60):=by rw[cm];simp;omega
 simp only[dc,YL];cases KG l<;>simp[e]
def nL(U:l.length<=1099511627776)(hi:i<l.length):Ag l l (l.length:Int) (i:Int)=bN (if okS l i=b9 then .inl ((i+1:Nat):Int)else .inr (.inr b')):=by
 simp only[Ag,DH,Aa,hi,decide_true,AB,bS,if_true,fi,(Z4 i),iw,dc,bo,bR,bX];unfold okS
 by_cases j:0<i
 .have J:b5 ((0:Int)<(i:Int))=b9:=by simpa using j
  have I:b5 (0<i)=b9:=by simpa using j
  have R:eL.wrap ((i:Int)-1)=((i-1:Nat):Int):=by rw[Z1 n'];omega
  have C:AS ((i-1:Nat):Int) l.length=b9:=by rw[Aa];simp;omega
  simp only[J,I,R,C,bX,AB,ca,fi];generalize Vd (l.getD i ay)=A;generalize cf (l.getD (i-1) ay).Name (l.getD i ay).Name=B;cases A<;>cases B<;>rfl
 .have J:b5 ((0:Int)<(i:Int))=b':=by simpa using j
  have I:b5 (0<i)=b':=by simpa using j
  simp only[J,I,cn,df,c8,ds,AB,fA,cI];generalize Vd (l.getD i ay)=A;cases A<;>rfl
def Tl{l:List Star}(j:l.length<=1099511627776):GQ l=bN (KG l&&b5 (l.length<=60)):=by
 unfold GQ BJ
 by_cases h:60<(l.length:Int)
 .have e:b5 (l.length<=60)=b':=t'
  simp[h,e]
 .have e:b5 (l.length<=60)=b9:=t'
  simp only[h,decide_false,ed,if_false];rw[Gw (step:=Ag l l (l.length:Int)) (okS l) l.length (KG l) (yes:=.inl ()) (no:=.inr b') (by unfold KG;simp) (fun i hi=>nL j hi) (by simp[Ag])];simp only[dc,YL,e];cases KG l<;>rfl
def QI(l:List Star)(x:L8):Bool:=l.any fun s=>s.Name==x
def UU{l:List Star}(I:l.length<=1099511627776)(x:L8):∃z,Fh l x=bN z/\b5 (z<0) = !QI l x:=by
 unfold Fh QI
 rw[Mu (step:=IQ l x) (fun k=>(l.getD k ay).Name==x) (fun k=>(k:Int)) l.length
  (fun k C=>by
   simp only[IQ,Aa,C,decide_true,AB,bS,if_true,fi,(Z4 k)];cases((l.getD k ay).Name==x)<;>rfl)
  (by simp[IQ]),←pB l (fun s=>s.Name==x)]
 cases(cb l.length).find? (fun k=>(l.getD k ay).Name==x)with
 |none=>exact⟨-1,rfl,rfl⟩
 |some j=>exact⟨(j:Int),rfl,p'⟩
def Ud{l:List Star}(I:l.length<=1099511627776)(x:L8):EC l x=bN (QI l x):=by
 unfold EC Ar Ay QI
 rw[Mu (step:=Al l x (l.length:Int)) (fun k=>(l.getD k ay).Name==x) (fun k=>(k:Int)) l.length
  (fun k C=>by
   simp only[Al,KE,Aa,C,decide_true,AB,bS,if_true,fi,(Z4 k),dc];cases((l.getD k ay).Name==x)<;>rfl)
  (by simp[Al]),←pB l (fun s=>s.Name==x)]
 cases(cb l.length).find? (fun k=>(l.getD k ay).Name==x)with
 |none=>rfl
 |some j=>simp
def Tx(d:Ad):Bool:=(cb d.Estimates.length).all fun i=>QI d.Stars (d.Estimates.getD i ay).Star
def bZ (d:Ad):Bool:=(((KG d.Stars&&b5 (d.Stars.length<=60))&&(FP d.Estimates&&b5 (d.Estimates.length<=100)))&&b5 (Gu d.Log=0))&&Tx d
def AAs(h1:d.Stars.length<=1048576)(h2:d.Estimates.length<=1048576)(I:d.Log.length<=1048576):Ke d=bN (bZ d):=by
 unfold Ke bZ;obtain⟨r,U,_⟩:=Qv I;simp only[U,dc,oH (l:=d.Stars) n',SH (l:=d.Estimates) n',bo,bX,AB,bR];have j:(Gu d.Log==0)=b5 (Gu d.Log=0):=by rw[cm];simp
 rw[j,Gw (step:=KH d) (fun i=>QI d.Stars (d.Estimates.getD i ay).Star) d.Estimates.length (Tx d) (yes:=.inl ()) (no:=.inr b') (by unfold Tx;simp) (fun i hi=>by
  obtain⟨z,R,J⟩:=UU (l:=d.Stars) n' (d.Estimates.getD i ay).Star;simp only[KH,Aa,hi,decide_true,AB,bS,if_true,fi,(Z4 i),R,dc,J];cases QI d.Stars (d.Estimates.getD i ay).Star<;>rfl) (by simp[KH])]
 generalize(KG d.Stars&&b5 (d.Stars.length<=60))=A;generalize(FP d.Estimates&&b5 (d.Estimates.length<=100))=B;generalize b5 (Gu d.Log=0)=C;simp only[dc,YL];cases A<;>cases B<;>cases C<;>cases Tx d<;>rfl
def lL(R:d.Stars.length<=1048576)(h2:d.Estimates.length<=1048576)(I:d.Log.length<=1048576):Fy d=bN (bZ d):=by
 unfold Fy bZ;obtain⟨es,J,_⟩:=RT I;simp only[J,dc,Tl (l:=d.Stars) n',GH (l:=d.Estimates) n',bo,bX,AB,bR];have j:(Gu d.Log==0)=b5 (Gu d.Log=0):=by rw[cm];simp
 rw[j,Gw (step:=GC d d.Estimates (d.Estimates.length:Int)) (fun i=>QI d.Stars (d.Estimates.getD i ay).Star) d.Estimates.length (Tx d) (yes:=.inl ()) (no:=.inr b') (by unfold Tx;simp) (fun i hi=>by
  simp only[GC,Aa,hi,decide_true,AB,bS,if_true,fi,(Z4 i),Ud (l:=d.Stars) n',dc];cases QI d.Stars (d.Estimates.getD i ay).Star<;>rfl) (by simp[GC])]
 generalize(KG d.Stars&&b5 (d.Stars.length<=60))=A;generalize(FP d.Estimates&&b5 (d.Estimates.length<=100))=B;generalize b5 (Gu d.Log=0)=C;simp only[dc,YL];cases A<;>cases B<;>cases C<;>cases Tx d<;>rfl
def sL:∀a b:L8,cf a b=b5 (a<b)
 |[],[]=>rfl
 |[],_::_=>by simp[cf]
 |_::_,[]=>by simp[cf]
 | x::a,y::b=>by
  have j:=sL a b;rw[cf,j,cm];simp[ir]
def Vm(a:L8):¬ a<a:=k8 a
def AAh{c:L8}(j:a<b)(h2:b<c):a<c:=ke j h2
def ta(a b:L8):a<b\/a=b\/b<a:=by
 by_cases h:a<b
 .exact .inl h
 .by_cases h2:b<a
  .exact .inr (.inr h2)
  .exact .inr (.inl (j5 (hL.1 h2) (hL.1 h)))
def ZI(a b:AA):Prop:=a.Time<b.Time\/(a.Time=b.Time/\(a.Star<b.Star\/(a.Star=b.Star/\a.Observer<b.Observer)))
def yK(a b:AA):Prop:=a.Time=b.Time/\a.Star=b.Star/\a.Observer=b.Observer
def Jt(a b:AA):Fq a b=b9 ↔ ZI a b:=by
 unfold Fq ZI
 by_cases j:a.Time=b.Time
 .rw[if_pos j]
  by_cases h2:a.Star=b.Star
  .rw[if_pos h2,sL,jn]
   exact⟨fun h=>.inr ⟨j,.inr ⟨h2,h⟩⟩,fun h=>by
    rcases h with h|⟨_,h|h⟩
    .omega
    .rw[h2]at h;exact absurd h (Vm _)
    .exact h.2⟩
  .rw[if_neg h2,sL,jn]
   exact⟨fun h=>.inr ⟨j,.inl h⟩,fun h=>by
    rcases h with h|⟨_,h|h⟩
    .omega
    .exact h
    .exact absurd h.1 h2⟩
 .rw[if_neg j,jn]
  exact⟨fun h=>.inl h,fun h=>by
   rcases h with h|h
   .exact h
   .exact absurd h.1 j⟩
def aS{a b c:AA}(j:ZI a b)(h2:ZI b c):ZI a c:=by
 unfold ZI at *;rcases j with j|⟨I,j⟩
 .rcases h2 with h2|⟨C,_⟩
  .exact .inl n'
  .exact .inl n'
 .rcases h2 with h2|⟨C,h2⟩
  .exact .inl n'
  .refine .inr ⟨n',?_⟩;rcases j with j|⟨f1,j⟩
   .rcases h2 with h2|⟨f2,_⟩
    .exact .inl (AAh j h2)
    .exact .inl (f2▸j)
   .rcases h2 with h2|⟨f2,h2⟩
    .exact .inl (f1▸h2)
    .exact .inr ⟨f1.trans f2,AAh j h2⟩
def AEq(a:AA):¬ ZI a a:=by
 rintro(h|⟨_,h|⟨_,h⟩⟩)
 .omega
 .exact Vm _ h
 .exact Vm _ h
def ZH(a b:AA):ZI a b\/yK a b\/ZI b a:=by
 unfold ZI yK;rcases Int.lt_trichotomy a.Time b.Time with h|h|h
 .exact .inl (.inl h)
 .rcases ta a.Star b.Star with h2|h2|h2
  .exact .inl (.inr ⟨h,.inl h2⟩)
  .rcases ta a.Observer b.Observer with j|j|j
   .exact .inl (.inr ⟨h,.inr ⟨h2,j⟩⟩)
   .exact .inr (.inl ⟨h,h2,j⟩)
   .exact .inr (.inr (.inr ⟨h.symm,.inr ⟨h2.symm,j⟩⟩))
  .exact .inr (.inr (.inr ⟨h.symm,.inl h2⟩))
 .exact .inr (.inr (.inl h))
def bU{a b:AA}(h:yK a b):¬ ZI a b:=by
 obtain⟨C,h2,j⟩:=h;rintro(h|⟨_,h|⟨_,h⟩⟩)
 .omega
 .rw[h2]at h;exact Vm _ h
 .rw[j]at h;exact Vm _ h
def oc{l:List AA}(j:FP l=b9){i:Nat}(hi:i+1<l.length):ZI (l.getD i ay) (l.getD (i+1) ay):=by
 unfold FP at j;have:=RQ j hi;unfold dz at this;simp only[j0,kb,ek]at this;rw[←Jt];have h2:=this.2;have e:b5 (0<i+1)=true:=decide_eq_true n';rw[e,ca]at h2;simpa using h2
def oZ{l:List AA}(j:FP l=b9):∀(d i:Nat),i+d+1<l.length->ZI (l.getD i ay) (l.getD (i+d+1) ay)
 |0,i,h=>oc j h
 |d+1,i,h=>aS (oZ j d i n') (oc j (i:=i+d+1) h)
def OK{l:List AA}(I:FP l=b9){i j:Nat}(C:i<j)(J:j<l.length):ZI (l.getD i ay) (l.getD j ay):=by
 have:=oZ I (j-i-1) i n'
 rwa [show i+(j-i-1)+1=j by omega]at this
def bg(a b:AA):∃c,Bc a b=bN c/\b5 (c<0)=Fq a b/\((c==0)=b9 ↔ yK a b):=by
 obtain⟨c,j,hb⟩:=Ya a b;refine⟨c,j,hb,?_⟩;unfold Bc at j;simp only[Tn,fG,AJI,dc,Option.some.injEq]at j;obtain⟨_,s2⟩:=QR a.Star b.Star;obtain⟨_,o2⟩:=QR a.Observer b.Observer
 have R:cc a.Star b.Star=0 ↔ a.Star=b.Star:=by
  rw[←beq_iff_eq,s2,beq_iff_eq]
 have U:cc a.Observer b.Observer=0 ↔ a.Observer=b.Observer:=by
  rw[←beq_iff_eq,o2,beq_iff_eq]
 rw[beq_iff_eq,←j];unfold yK
 by_cases J:a.Time<b.Time
 .simp only[J,if_true];constructor
  .intro h;simp at h
  .intro h;omega
 .by_cases h2:b.Time<a.Time
  .simp only[J,h2,if_true,if_false];constructor
   .intro h;simp at h
   .intro h;omega
  .simp only[J,h2,if_false,ne_eq,not_true_eq_false];have ht:a.Time=b.Time:=n'
   by_cases I:cc a.Star b.Star=0
   .simp only[I,not_true_eq_false,if_false];have hs:=R.1 I
    by_cases C:cc a.Observer b.Observer=0
    .simp only[C,not_true_eq_false,if_false];exact⟨fun _=>⟨ht,hs,U.1 C⟩,fun _=>trivial⟩
    .simp only[C,not_false_eq_true,if_true];exact⟨fun h=>h.elim,fun h=>C (U.2 h.2.2)⟩
   .simp only[I,not_false_eq_true,if_true];exact⟨fun h=>h.elim,fun h=>I (R.2 h.2.1)⟩
def Lg(l:List AA)(e:AA)(k:Nat):Prop:=k<=l.length/\(∀i,i<k->ZI (l.getD i ay) e)/\∀i,k<=i->i<l.length->¬ ZI (l.getD i ay) e
variable{n:L8}
def ALC{n:Nat}(C:i<j)(J:j<=n)(I:n<=1000000):hF ((i:Int)+(j:Int))=(((i+j)/2:Nat):Int):=by
 unfold hF
 rw[Z1 (n:=(i:Int)+(j:Int)) n']
 have:u64.wrap ((i:Int)+(j:Int))=(i:Int)+(j:Int):=by
  have:=IntKind.wrap_u64 ((i:Int)+(j:Int));rw[this];omega
 rw[this,show(2:Int)^(min 1 64)=2 from rfl,Int.fdiv_eq_ediv_of_nonneg _ n',Z1 n'];omega
def ZP{l:List AA}{e:AA}(R:FP l=b9)(hl:l.length<=1000000):∀(m i j:Nat),j-i<=m->i<=j->j<=l.length->(∀a,a<i->ZI (l.getD a ay) e)->(∀a,j<=a->a<l.length->¬ ZI (l.getD a ay) e) ->
  ∃k:Nat,AE (AI l e (l.length:Int)) ((i:Int),(j:Int))=bN (k:Int)/\Lg l e k
 | 0,i,j,hm,I,J,h1,h2=>by
  have I:i=j:=n'
  subst I;exact⟨i,Ai (by simp[AI]),J,h1,h2⟩
 | m+1,i,j,hm,I,J,h1,h2=>by
  by_cases ad:i<j
  .have hk:(i+j)/2<l.length:=n'
   obtain⟨c,hc,hb,_⟩:=bg (l.getD ((i+j)/2) ay) e
   have hs:AI l e (l.length:Int) ((i:Int),(j:Int))=bN (if b5 (c<0)=b9 then .inl ((((i+j)/2+1:Nat):Int),(j:Int))else .inl ((i:Int),(((i+j)/2:Nat):Int))):=by
    simp only[AI];rw[if_pos (decide_eq_true n'),VL x',AB,ALC ad J hl,Aa,decide_eq_true hk,AB,fi,hc];simp only[dc];rw[AW n'];split<;>rfl
   cases U:b5 (c<0)with
   | true=>
    rw[U]at hs hb;rw[Aq hs];have C:=(Jt _ _).1 hb.symm;refine ZP R hl m ((i+j)/2+1) j n' n' J (fun a ha=>?_) h2;rcases e8 a ((i+j)/2)with h|h
    .exact aS (OK R h hk) C
    .obtain rfl:a=(i+j)/2:=n'
     exact C
   | false=>
    rw[U]at hs hb;rw[Aq hs]
    have C:¬ ZI (l.getD ((i+j)/2) ay) e:=fun h=>by
     rw[(Jt _ _).2 h]at hb;exact jm hb
    refine ZP R hl m i ((i+j)/2) n' n' n' h1 (fun a ha ae h=>?_);rcases e8 ((i+j)/2) a with c|c
    .exact C (aS (OK R c ae) h)
    .obtain rfl:a=(i+j)/2:=n'
     exact C h
  .exact ZP R hl m i j n' I J h1 h2
def bx{l:List AA}(e:AA)(I:FP l=b9)(C:l.length<=1000000):
  ∃(k:Nat) (f:Bool),AL l e=bN ((k:Int),f)/\Lg l e k/\(f=b9 ↔ k<l.length/\yK (l.getD k ay) e):=by
 obtain⟨k,hw,j⟩:=ZP (e:=e) I C l.length 0 l.length n' n' (cw _) (fun a R=>absurd R n') (fun a h1 h2=>absurd h2 n');have hw:AE (AI l e (l.length:Int)) (0,(l.length:Int))=bN (k:Int):=hw;obtain⟨c,J,_,U⟩:=bg (l.getD k ay) e;unfold AL;rw[hw];simp only[dc,fi,J,bo,bR,bX,AB];have e1:b5 ((k:Int)<(l.length:Int))=b5 (k<l.length):=by rw[cm];simp
 refine⟨k,b5 (k<l.length)&&(c==0),?_,j,?_⟩
 .rw[e1,Aa];cases decide (k<l.length)<;>simp[AB]
 .rw[kb,jn,U]
def TF:KG l=b9 ↔ ∀i,i<l.length->Vd (l.getD i ay)=b9/\(0<i->cf (l.getD (i-1) ay).Name (l.getD i ay).Name=b9):=by
 unfold KG okS;simp only[db,k7,kb,ek,iI,decide_eq_false_iff_not,iR];constructor
 .intro h i hi;obtain⟨a,b⟩:=h i hi;refine⟨a,fun j=>?_⟩;rcases b with b|b
  .exact absurd j b
  .exact b
 .intro h i hi;obtain⟨a,b⟩:=h i hi;refine⟨a,?_⟩
  by_cases j:0<i
  .exact .inr (b j)
  .exact .inl j
def jR(l:List Star)(n:L8):Option Nat:=(cb l.length).find? fun i=>(l.getD i ay).Name==n
def bL(h:jR l n=hV):∀i,i<l.length->(l.getD i ay).Name≠n:=by
 unfold jR at h;rw[fp]at h;intro i hi;simpa using h i (by simpa using hi)
def cC:∀a b:L8,cf a b=b5 (a<b)
 |[],[]=>by simp[cf]
 |_::_,[]=>by simp[cf]
 |[],_::_=>by simp[cf]
 | x::a,y::b=>by
  simp only[cf,cC a b,ir]
  by_cases c1:x<y<;>by_cases c2:x=y<;>by_cases c3:a<b<;>simp[c1,c2,c3]
def tY(a:L8):¬ a<a:=k8 a
def aR{a b c:L8}(j:a<b)(h2:b<c):a<c:=ke j h2
def tX(a b:L8):a<b\/a=b\/b<a:=by
 by_cases h:a<b
 .exact .inl h
 .by_cases h2:b<a
  .exact .inr (.inr h2)
  .exact .inr (.inl (j5 (hL.1 h2) (hL.1 h)))
def ZG{l:List Star}(j:KG l=b9){i:Nat}(C:0<i)(hi:i<l.length):(l.getD (i-1) ay).Name<(l.getD i ay).Name:=by
 have:=(TF.1 j i hi).2 C;rw[cC]at this;exact of_decide_eq_true this
def AGr{l:List Star}(j:KG l=b9):∀(d i:Nat),i+d+1<l.length->(l.getD i ay).Name<(l.getD (i+d+1) ay).Name
 |0,i,h=>by have:=ZG j (i:=i+1) n' h;simpa using this
 | d+1,i,h=>by
  have C:=AGr j d i n';have h2:=ZG j (i:=i+d+1+1) n' h;rw[j0]at h2;rw[show i+(d+1)+1=i+d+1+1 by omega];exact aR C h2
def yy{l:List Star}(I:KG l=b9){i j:Nat}(C:i<j)(J:j<l.length):(l.getD i ay).Name<(l.getD j ay).Name:=by
 have:=AGr I (j-i-1) i n';rw[show i+(j-i-1)+1=j by omega]at this;exact this
def Ni(l:List Star)(n:L8)(k:Nat):Prop:=k<=l.length/\(∀i,i<k->(l.getD i ay).Name<n)/\∀i,k<=i->i<l.length->n<(l.getD i ay).Name
def YN{l:List Star}(hl:l.length<=1000000)(hg:KG l=b9){x:Star}(hf:jR l x.Name=hV):∃k:Nat,AE (Aw l x) 0=bN (k:Int)/\Ni l x.Name k:=by
 have C:=bL hf
 obtain⟨y,U,k,rfl,j⟩:=DN (step:=Aw l x) (fun s=>∃k:Nat,s=(k:Int)/\k<=l.length/\∀i,i<k->(l.getD i ay).Name<x.Name) (fun r=>∃k:Nat,r=(k:Int)/\Ni l x.Name k) (fun s=>l.length-s.toNat) (by
  rintro s ⟨k,rfl,R,h2⟩
  by_cases c:k<l.length
  .have J:(k:Int)<(l.length:Int):=n'
   simp only[Aw,DH,bo,bR,bX,AB,Aa,c,decide_true,J,ca,fi,cC]
   by_cases c2:(l.getD k ay).Name<x.Name
   .left;rw[if_pos (by simpa using c2),(Z4 k)]
    exact⟨_,rfl,⟨k+1,rfl,c,fun i hi=>by
     by_cases e:i=k
     .subst e;exact c2
     .exact h2 i n'⟩,by simp only[fi];omega⟩
   .right;rw[if_neg (by simpa using c2)];refine⟨_,rfl,k,rfl,R,h2,fun i aa I=>?_⟩
    have j:x.Name<(l.getD k ay).Name:=by
     rcases tX (l.getD k ay).Name x.Name with h|h|h
     .exact absurd h c2
     .exact absurd h (C k c)
     .exact h
    by_cases e:i=k
    .subst e;exact j
    .exact aR j (yy hg n' I)
  .right;have J:¬ (k:Int)<(l.length:Int):=n'
   simp only[Aw,DH,bo,bR,bX,AB,J,decide_false,c8,ds,cn,ed,if_false];exact⟨_,rfl,k,rfl,R,h2,fun i a b=>n'⟩) (s:=(0:Int)) ⟨0,rfl,eg _,fun i h=>n'⟩
 exact⟨k,U,j⟩
def fU(l:List Star)(k:Nat)(x:Star):List Star:=l.take k++x::l.drop k
variable{k:Nat}
def nX(j:k<=l.length)(x:Star):(fU l k x).length=l.length+1:=by unfold fU;simp;omega
def nY(C:k<=l.length)(x:Star)(i:Nat):(fU l k x).getD i ay=if i<k then l.getD i ay else if i=k then x else l.getD (i-1) ay:=by
 unfold fU;have j:(l.take k).length=k:=by rw[hI];omega
 rw[k9]
 by_cases c:i<k
 .rw[if_pos c,fx n',List.getElem?_take,if_pos c,k9]
 .rw[if_neg c,e5 n',j]
  by_cases c2:i=k
  .subst c2;simp
  .rw[if_neg c2,show i-k=(i-1-k)+1 by omega,List.getElem?_cons_succ,dT,show k+(i-1-k)=i-1 by omega,k9]
def xD(j:KG l=b9){x:Star}(I:Vd x=b9)(J:Ni l x.Name k):KG (fU l k x)=b9:=by
 obtain⟨C,h2,R⟩:=J;refine TF.2 fun i hi=>?_
 rw[nX C]at hi;rw[nY C,nY C];refine⟨?_,fun U=>?_⟩
 .split
  .exact(TF.1 j i n').1
  .split
   .exact I
   .exact(TF.1 j (i-1) n').1
 .rw[cC,jn]
  by_cases c1:i<k
  .rw[if_pos n',if_pos c1];exact ZG j U n'
  .rw[if_neg c1]
   by_cases c2:i=k
   .subst c2;rw[if_pos n',if_pos rfl];exact h2 _ n'
   .rw[if_neg c2]
    by_cases c3:i-1=k
    .rw[if_neg n',if_pos c3];exact R _ n' n'
    .rw[if_neg n',if_neg c3];exact ZG j n' n'
def pO(j:l.length<=1000000):Bt l=bN l:=by
 unfold Bt;rw[Bl t',AB];rfl
def Xh(h:QI l n=b'):jR l n=hV:=by
 unfold jR;rw[fp];intro i hi;have j:i<l.length:=by simpa using hi
 unfold QI at h;rw[←hK,hJ]at h;intro c;exact h ⟨_,Hu j ay,c⟩
def fV(h:Ni l n k)(I:Ni l n j):k=j:=by
 have one:∀{a b:Nat},Ni l n a->Ni l n b->¬ a<b:=fun J hb c=>by
  have C:=hb.2.1 _ c;have h2:=J.2.2 _ (cw _) (h9 c hb.1);exact tY _ (aR C h2)
 have C:=one h I;have h2:=one I h;omega
open Classical in
def qo(l:List Star)(n:L8):Nat:=if h:∃k,Ni l n k then Classical.choose h else 0
def XL(h:Ni l n k):qo l n=k:=by
 unfold qo;have j:∃k,Ni l n k:=⟨k,h⟩;rw[dif_pos j];exact fV (Classical.choose_spec j) h
def Yq(l:List Star)(x:Star):List Star×Int :=if(KG l&&b5 (l.length<=60))=b9 then if Vd x=b9 then if QI l x.Name=b9 then([],4)else if l.length=60 then([],5)else(fU l (qo l x.Name) x,0)else([],2)else([],1)
def sg{l:List Star}(hl:l.length<=1000000)(x:Star):Fo l x=bN (Yq l x):=by
 unfold Fo Yq;rw[Tl n',dc,iw,dc,Ud n',dc];cases J:(KG l&&b5 (l.length<=60))with
 |false=>simp
 | true=>
  cases U:Vd x with
  |false=>simp
  | true=>
   simp only[bI,ed,if_false,if_true];cases h:QI l x.Name with
   |true=>simp
   | false=>
    simp only[ed,if_false]
    by_cases j:l.length=60
    .rw[if_pos j,if_pos t']
    .rw[if_neg j,if_neg t'];have C:=(cS.1 J).1;obtain⟨k,R,I⟩:=YN (l:=l) n' C (x:=x) (Xh h);rw[XL I];unfold Bq;rw[R,dc,pO n',dc];unfold kZ;have hk:=I.1;rw[if_pos (by simp[oS];omega)];simp only[dc,fi];unfold fU;simp
def AGa{l:List Star}{x:Star}(hl:l.length<=1000000)(h:(Yq l x).2=0):KG (Yq l x).1=b9/\(Yq l x).1.length<=60/\∀n,QI l n=b9->QI (Yq l x).1 n=b9:=by
 unfold Yq at h ⊢;split at h
 .rename_i hg;split at h
  .rename_i U;split at h
   .exact absurd h x'
   .rename_i hh;split at h
    .exact absurd h x'
    .rename_i J;have j:=cS.1 hg;have hlen:=of_decide_eq_true j.2;rw[if_pos hg,if_pos U,if_neg hh,if_neg J];obtain⟨k,e1,C⟩:=YN (l:=l) hl j.1 (x:=x) (Xh (by simpa using hh));rw[XL C];refine⟨xD j.1 U C,by rw[nX C.1];omega,fun n I=>?_⟩;unfold QI at I ⊢;rw[hJ]at I ⊢;obtain⟨s,h1,h2⟩:=I;refine⟨s,?_,h2⟩;unfold fU;have R:s∈l.take k++l.drop k:=by rw[gk];exact h1
     rcases dU.1 R with c|c
     .exact dU.2 (.inl c)
     .exact dU.2 (.inr (List.mem_cons_of_mem _ c))
  .exact absurd h x'
 .exact absurd h x'
def ADb{l:List Star}{x:Star}(j:l.length<=1000000):(Yq l x).1.length<=l.length+1:=by
 unfold Yq;split
 .split
  .split
   .simp
   .split
    .simp
    .unfold fU;simp;omega
  .simp
 .simp
def nV(l:List AA)(e:AA)(C:k<=l.length)(i:Nat):(((l.take k)++[e])++l.drop k).getD i ay=if i<k then l.getD i ay else if i=k then e else l.getD (i-1) ay:=by
 have hlen:(l.take k).length=k:=t'
 rw[cA]
 by_cases c:i<k
 .rw[if_pos c,k9,k9,fx n',List.getElem?_take_of_lt c]
 .rw[if_neg c,k9,e5 n',hlen]
  by_cases c2:i=k
  .subst c2;rw[if_pos rfl,hG];rfl
  .rw[if_neg c2];obtain⟨j,rfl⟩:∃j,i=k+(j+1):=⟨i-k-1,n'⟩;rw[show k+(j+1)-k=j+1 by omega];show((l.drop k)[j]?).getD ay=_;rw[dT,k9,show k+(j+1)-1=k+j by omega]
variable{l:List AA}{e:AA}
def xp(R:FP l=b9)(he:Nj e=b9)(J:k<=l.length)(h1:k<l.length->Fq e (l.getD k ay)=b9)(h2:0<k->Fq (l.getD (k-1) ay) e=b9):
  FP (((l.take k)++[e])++l.drop k)=b9:=by
 have j:∀i,i<l.length->Nj (l.getD i ay)=b9/\(0<i->Fq (l.getD (i-1) ay) (l.getD i ay)=b9):=by
  intro i hi;unfold FP at R;have:=RQ R hi;unfold dz at this;simp only[kb,ek,iI,decide_eq_false_iff_not,iR]at this;exact⟨this.1,fun I=>this.2.elim (fun c=>absurd I c) id⟩
 unfold FP;rw[db];intro i hi
 have U:i<l.length+1:=by
  have:(((l.take k)++[e])++l.drop k).length=l.length+1:=t'
  rw[this]at hi;simpa using hi
 have C:∀A B:Bool,A=b9->(0<i->B=b9)->(A && !(b5 (0<i) && !B))=b9:=by
  intro A B hA hB;rw[hA,ca]
  by_cases c:0<i
  .rw[hB c];simp
  .simp[c]
 unfold dz;rw[nV l e J,nV l e J];refine C _ _ ?_ (fun I=>?_)
 .by_cases c:i<k
  .rw[if_pos c];exact(j i n').1
  .rw[if_neg c]
   by_cases c2:i=k
   .rw[if_pos c2];exact he
   .rw[if_neg c2];exact(j (i-1) n').1
 .by_cases c:i<k
  .rw[if_pos (show i-1<k by omega),if_pos c];exact(j i n').2 I
  .rw[if_neg c]
   by_cases c2:i=k
   .rw[if_pos c2,if_pos (show i-1<k by omega),c2];exact h2 n'
   .rw[if_neg c2]
    by_cases c3:i-1=k
    .rw[if_neg (show ¬ i-1<k by omega),if_pos c3,c3];exact h1 n'
    .rw[if_neg (show ¬ i-1<k by omega),if_neg c3];exact(j (i-1) n').2 n'
def pP(j:l.length<=1000000):BZ l=bN l:=by
 unfold BZ;rw[Bl t',AB];rfl
def kC(l:List AA)(k:Nat)(e:AA):List AA:=((l.take k)++[e])++l.drop k
def kS(e:AA)(C:k<=l.length)(j:l.length<=1000):kZ 56 l (k:Int) ([e]:List AA)=bN (kC l k e):=by
 unfold kZ oS;rw[if_pos t'];simp[kC]
def AAA(J:FP l=b9)(R:Nj e=b9)(I:Lg l e k)(j:¬ (k<l.length/\yK (l.getD k ay) e)):FP (kC l k e)=b9:=by
 obtain⟨h0,U,h2⟩:=I;refine xp J R h0 (fun C=>?_) (fun C=>(Jt _ _).2 (U (k-1) n'));rw[Jt];rcases ZH (l.getD k ay) e with h|h|h
 .exact absurd h (h2 k (cw _) C)
 .exact absurd ⟨C,h⟩ j
 .exact h
def aF(h:Lg l e k)(C:Lg l e j):k=j:=by
 have one:∀{a b:Nat},Lg l e a->Lg l e b->¬ a<b:=fun I hb c=>I.2.2 _ (cw _) (h9 c hb.1) (hb.2.1 _ c)
 have J:=one h C;have h2:=one C h;omega
open Classical in
def aG(l:List AA)(e:AA):Nat:=if h:∃k,Lg l e k then Classical.choose h else 0
def XM(h:Lg l e k):aG l e=k:=by
 unfold aG;have j:∃k,Lg l e k:=⟨k,h⟩;rw[dif_pos j];exact aF (Classical.choose_spec j) h
open Classical in
def Yr(l:List AA)(e:AA):List AA×Int :=if(FP l&&b5 (l.length<=100))=b9 then if Nj e=b9 then if aG l e<l.length/\yK (l.getD (aG l e) ay) e then([],4)else if l.length=100 then([],5)else(kC l (aG l e) e,0)else([],2)else([],1)
def fK{l:List AA}(U:l.length<=1000000)(e:AA):Ce l e=bN (Yr l e):=by
 unfold Ce Yr;rw[GH n',dc,Td,dc];cases hg:(FP l&&b5 (l.length<=100))with
 |false=>simp
 | true=>
  cases hx:Nj e with
  |false=>simp
  | true=>
   simp only[bI,ed,if_false,if_true];obtain⟨J,C⟩:=cS.1 hg;have C:=of_decide_eq_true C;obtain⟨k,f,e1,R,hf⟩:=bx (l:=l) e J U;rw[e1,dc,XM R];cases f with
   |true=>rw[if_pos (hf.1 rfl)];simp
   | false=>
    rw[if_neg (fun h=>jm (hf.2 h))]
    by_cases j:l.length=100
    .rw[if_pos j];simp[j]
    .have I:((l.length:Int)==100)=b':=by rw[beq_eq_false_iff_ne];omega
     rw[if_neg j,pP U];simp only[dc,ed,if_false,I,kS e R.1 (show l.length<=1000 by omega)]
def AEm{x:AA}:x∈kC l k e ↔ x=e\/x∈l:=by
 unfold kC
 have:x∈l ↔ x∈l.take k\/x∈l.drop k:=by
  rw[←dU,gk]
 rw[this];simp only[dU,h7];constructor
 .rintro((h|h)|h)
  .exact .inr (.inl h)
  .exact .inl h
  .exact .inr (.inr h)
 .rintro(h|h|h)
  .exact .inl (.inr h)
  .exact .inl (.inl h)
  .exact .inr h
def AGb{l:List AA}{e:AA}(hl:l.length<=1000000)(h:(Yr l e).2=0):FP (Yr l e).1=b9/\(Yr l e).1.length<=100/\∀x,x∈(Yr l e).1->x=e\/x∈l:=by
 unfold Yr at h ⊢;split at h
 .rename_i U;split at h
  .rename_i I;split at h
   .exact absurd h x'
   .rename_i R;split at h
    .exact absurd h x'
    .rename_i C;have j:=cS.1 U;have hlen:=of_decide_eq_true j.2;rw[if_pos U,if_pos I,if_neg R,if_neg C];obtain⟨k,f,e1,J,hf⟩:=bx (l:=l) e j.1 hl;rw[XM J]at R ⊢;exact⟨AAA j.1 I J R,by unfold kC;simp;have:=J.1;omega,fun x I=>AEm.1 I⟩
  .exact absurd h x'
 .exact absurd h x'
def ADe{l:List AA}{e:AA}:(Yr l e).1.length<=l.length+1:=by
 unfold Yr;split
 .split
  .split
   .simp
   .split
    .simp
    .unfold kC;simp;omega
  .simp
 .simp
def ALZ{α:Type}(l:List α)(n:Nat):j' l 0 (n:Int)=l.take n:=by simp[j']
def ALa{α:Type}(l:List α)(n:Nat):j' l (n:Int) (l.length:Int)=l.drop n:=by simp[j']
def qn{k:Nat}(h:k+1<=9223372036854775807):eL.wrap (((k+1:Nat):Int)-1)=(k:Int):=by rw[Z1 n'];omega
def nC{l:List Star}(hl:l.length<=1000000)(J:KG l=b9){x:Star}(R:jR l x.Name=hV):∃k:Nat,AE (IS l x) (l.length:Int)=bN (k:Int)/\Ni l x.Name k:=by
 have C:=bL R
 obtain⟨y,I,k,rfl,j⟩:=DN (step:=IS l x) (fun s=>∃k:Nat,s=(k:Int)/\k<=l.length/\∀i,k<=i->i<l.length->x.Name<(l.getD i ay).Name) (fun r=>∃k:Nat,r=(k:Int)/\Ni l x.Name k) (fun s=>s.toNat) (by
  rintro s ⟨k,rfl,h1,h2⟩;cases k with
  |zero=>exact .inr ⟨_,rfl,0,rfl,eg _,fun i hi=>absurd hi (Nat.not_lt_zero i),fun i _ hi=>h2 i (eg _) hi⟩
  | succ k=>
   have c:b5 ((0:Int)<((k+1:Nat):Int))=true:=decide_eq_true n';have j:k<l.length:=n'
   simp only[IS,c,qn (show k+1<=9223372036854775807 by omega),Aa,j,decide_true,bI,c',AB,ca,fi,cC];rcases tX (l.getD k ay).Name x.Name with h|h|h
   .right;rw[if_neg (by rw[decide_eq_true h];simp)]
    exact⟨_,rfl,k+1,rfl,h1,fun i hi=>by
     by_cases e:i=k
     .subst e;exact h
     .exact aR (yy J (show i<k by omega) j) h,h2⟩
   .exact absurd h (C k j)
   .left;have h3:¬ (l.getD k ay).Name<x.Name:=fun c=>tY _ (aR c h)
    have U:¬ (l.getD k ay).Name=x.Name:=C k j;rw[if_pos (by rw[decide_eq_false h3,beq_eq_false_iff_ne.2 U];rfl)]
    exact⟨_,rfl,⟨k,rfl,n',fun i a b=>by
     by_cases e:i=k
     .subst e;exact h
     .exact h2 i n' b⟩,by simp only[fi];omega⟩) (s:=(l.length:Int)) ⟨l.length,rfl,cw _,fun i a b=>n'⟩
 exact⟨k,I,j⟩
def Yi{l:List Star}(hl:l.length<=1000000)(x:Star):Ge l x=bN (Yq l x):=by
 unfold Ge Yq;obtain⟨z,U,j⟩:=UU (l:=l) n' x.Name;rw[oH n',dc,il,dc,U,dc]
 have I:b5 ((0:Int)<=z)=QI l x.Name:=by
  cases h:QI l x.Name<;>rw[h]at j<;>simp at j ⊢<;>omega
 rw[I];cases R:(KG l&&b5 (l.length<=60))with
 |false=>simp
 | true=>
  cases hx:Vd x with
  |false=>simp
  | true=>
   simp only[bI,ed,if_false,if_true];cases h:QI l x.Name with
   |true=>simp
   | false=>
    simp only[ed,if_false];have h6:=of_decide_eq_true (cS.1 R).2
    by_cases C:l.length=60
    .rw[if_pos C,if_pos t']
    .rw[if_neg C,if_neg t'];obtain⟨k,e1,J⟩:=nC (l:=l) n' (cS.1 R).1 (x:=x) (Xh h);have hk:=J.1;rw[e1,dc,XL J,Z3 n',Z3 n',ALZ,ALa]
     repeat rw[AB]
     rw[Bl t',Bl t',Bl t'];unfold fU;simp[AB]
def qT(hl:l.length<=1000000)(hg:FP l=b9)(e:AA)(hp:Lg l e k):∃z,LB l e=bN z/\(b5 ((0:Int)<=z)=b9 ↔ k<l.length/\yK (l.getD k ay) e):=by
 unfold LB
 rw[Mu (step:=IP l e) (fun i=>!Fq (l.getD i ay) e && !Fq e (l.getD i ay)) (fun i=>(i:Int)) l.length (fun i hi=>by
  simp only[IP,bS,hi,decide_true,if_true,Aa,AB,fi,Xy,dc,bo,bR,bX,(Z4 i)];split<;>rfl) (by simp[IP])]
 have key:∀i,i<l.length->((!Fq (l.getD i ay) e && !Fq e (l.getD i ay))=b9 ↔ yK (l.getD i ay) e):=fun i hi=>by
  rw[kb,ek,ek,←hK,←hK,Jt,Jt];constructor
  .rintro⟨a,b⟩;rcases ZH (l.getD i ay) e with h|h|h
   .exact absurd h a
   .exact h
   .exact absurd h b
  .exact fun h=>⟨bU h,bU ⟨h.1.symm,h.2.1.symm,h.2.2.symm⟩⟩
 obtain⟨p0,U,p2⟩:=hp
 have uniq:∀i,i<l.length->yK (l.getD i ay) e->i=k:=fun i hi he=>by
  have a:¬ i<k:=fun c=>bU he (U i c)
  have b:¬ k<i:=fun c=>by
   have J:=OK hg c hi;have h2:=p2 k (cw _) n';rcases ZH (l.getD k ay) e with h|h|h
   .exact h2 h
   .have h5:ZI e (l.getD i ay):=by
     obtain⟨R,q2,q3⟩:=h;unfold ZI at J ⊢;rw[←R,←q2,←q3];exact J
    exact bU ⟨he.1.symm,he.2.1.symm,he.2.2.symm⟩ h5
   .exact bU ⟨he.1.symm,he.2.1.symm,he.2.2.symm⟩ (aS h J)
  omega
 cases C:(cb l.length).find? (fun i=>!Fq (l.getD i ay) e && !Fq e (l.getD i ay))with
 | none=>
  refine⟨-1,rfl,⟨fun h=>absurd h x',fun h=>?_⟩⟩;rw[fp]at C;exact absurd ((key k h.1).2 h.2) (C k (by simpa using h.1))
 | some j=>
  rw[dw]at C;have I:j<l.length:=by simpa using C.2.1
  have he:=(key j I).1 C.1;refine⟨(j:Int),rfl,⟨fun _=>?_,fun _=>p'⟩⟩;rw[←uniq j I he];exact⟨I,he⟩
def nD(hl:l.length<=1000000)(hg:FP l=b9){k0:Nat}(C:Lg l e k0)(I:¬ (k0<l.length/\yK (l.getD k0 ay) e)):AE (JN l e) (l.length:Int)=bN (k0:Int):=by
 obtain⟨p0,p1,p2⟩:=C
 obtain⟨y,hy,rfl⟩:=DN (step:=JN l e) (fun s=>∃k:Nat,s=(k:Int)/\k0<=k/\k<=l.length) (fun r=>r=(k0:Int)) (fun s=>s.toNat) (by
  rintro s ⟨k,rfl,h1,h2⟩;cases k with
  | zero=>
   obtain rfl:k0=0:=n'
   exact .inr ⟨_,rfl,rfl⟩
  | succ k=>
   have c:b5 ((0:Int)<((k+1:Nat):Int))=true:=decide_eq_true n';have j:k<l.length:=n'
   simp only[JN,c,qn (show k+1<=9223372036854775807 by omega),Aa,j,decide_true,bI,c',AB,ca,fi,Xy,bo,bR]
   by_cases hb:Fq e (l.getD k ay)=b9
   .left;rw[if_pos hb];refine⟨_,rfl,⟨k,rfl,?_,n'⟩,by simp only[fi];omega⟩;have:=(Jt _ _).1 hb;rcases e8 k k0 with c3|c3
    .exact absurd (aS this (p1 k c3)) (AEq _)
    .exact c3
   .right;rw[if_neg hb];refine⟨_,rfl,?_⟩;have R:¬ ZI e (l.getD k ay):=fun c=>hb ((Jt _ _).2 c)
    have:¬ k0<=k:=fun c3=>by
     have h3:=p2 k c3 j;rcases ZH (l.getD k ay) e with h|h|h
     .exact h3 h
     .have J:k0=k:=by
       rcases e8 k0 k with c4|c4
       .have U:=OK hg c4 j
        have h5:ZI (l.getD k0 ay) e:=by
         obtain⟨q1,q2,q3⟩:=h;unfold ZI at U ⊢;rw[←q1,←q2,←q3];exact U
        exact absurd h5 (p2 k0 (cw _) n')
       .omega
      rw[←J]at h j;exact I ⟨j,h⟩
     .exact R h
    rw[show k0=k+1 by omega]) (s:=(l.length:Int)) ⟨l.length,rfl,p0,cw _⟩
 exact hy
def TR{l:List AA}(hl:l.length<=1000000)(e:AA):Dx l e=bN (Yr l e):=by
 unfold Dx Yr;rw[SH n',dc,ik,dc];cases hg:(FP l&&b5 (l.length<=100))with
 |false=>simp
 | true=>
  cases hx:Nj e with
  |false=>simp
  | true=>
   simp only[bI,ed,if_false,if_true];obtain⟨C,J⟩:=cS.1 hg;have J:=of_decide_eq_true J;obtain⟨k,f,e1,U,hf⟩:=bx (l:=l) e C hl;obtain⟨z,hz,I⟩:=qT hl C e U;rw[hz,dc,XM U]
   by_cases R:k<l.length/\yK (l.getD k ay) e
   .rw[if_pos R,if_pos (I.2 R)]
   .rw[if_neg R,if_neg (fun h=>R (I.1 h))]
    by_cases j:l.length=100
    .rw[if_pos j,if_pos t']
    .rw[if_neg j,if_neg t'];have hk:=U.1;unfold NU;rw[nD hl C U R,dc,Z3 n',Z3 n',ALZ,ALa]
     repeat rw[AB]
     rw[Bl t',Bl t',Bl t'];unfold kC;simp[AB]
def dg(n:Nat):UInt8:=fu (48+n)
def d2(n:Nat):L8:=[dg (n/10),dg (n%10)]
def d3(n:Nat):L8:=[dg (n/100),dg (n/10%10),dg (n%10)]
variable{n:Nat}
def AFw(h:n<10):b8 n=[dg n]:=e3 h
def ALX(h:¬ n<10):b8 n=b8 (n/10)++[dg (n%10)]:=by rw[b8,dif_neg h];rfl
def nf(k:Nat)(I:k<=100)(s:L8)(hs:s.length<=100):AE (JS (k:Int)) s=bN (fm (k-s.length) 48++s):=by
 generalize hm:k-s.length=m
 induction m generalizing s with
 | zero=>
  refine Ai ?_;have:¬ (s.length:Int)<(k:Int):=n'
  simp[JS,this]
 | succ m C=>
  have j:(s.length:Int)<(k:Int):=n'
  rw[Aq (s':=[48]++s) (by
   simp only[JS,j,decide_true,if_true];rw[As t',AB]),C ([48]++s) t' t']
  rw[List.replicate_succ',cA]
def xG{n k:Nat}(j:k<=100)(h:n<=1000000000):Jj (n:Int) (k:Int)=bN (fm (k-(b8 n).length) 48++b8 n):=by
 unfold Jj;have C:=Eo (u:=n) n';rw[Kv (n:=(n:Int)) ⟨n',n'⟩,Kl];simp only[dc];rw[nf k j _ n'];rfl
def AEd{n:Nat}(h:n<=999):Jj (n:Int) 3=bN (d3 n):=by
 have:=xG (n:=n) (k:=3) n' n';rw[show((3:Nat):Int)=3 by rfl]at this;rw[this]
 by_cases c:n<10
 .rw[AFw c];have C:n/10%10=0:=n'
  have I:n%10=n:=n'
  have j:n/100=0:=n'
  simp only[d3,C,I,j];rfl
 .by_cases c2:n<100
  .rw[ALX c,AFw (show n/10<10 by omega)];have C:n/10%10=n/10:=n'
   have j:n/100=0:=n'
   simp only[d3,C,j];rfl
  .rw[ALX c,ALX (show ¬ n/10<10 by omega),AFw (show n/10/10<10 by omega)];have j:n/10/10=n/100:=n'
   simp only[d3,j];rfl
def QB(m:Int):L8:=(if m<0 then([45]:L8)else [])++b8 (m.natAbs/1000)++[46]++d3 (m.natAbs%1000)
def Pi(u:Nat):∀c,c∈b8 u->48<=c.toNat/\c.toNat<=57:=fun c j=>NR.1 (db.1 (RH u) c j)
def Sc(u:Nat):∃c r,b8 u=c::r/\48<=c.toNat/\c.toNat<=57:=by
 have j:=LN u;cases hd:b8 u with
 |nil=>rw[hd]at j;exact absurd j p'
 |cons c r=>exact⟨c,r,rfl,Pi u c (by rw[hd];simp)⟩
def kF{c d:UInt8}(h:48<=d.toNat/\d.toNat<=57)(j:c.toNat<48\/57<c.toNat):d≠c:=fun e=>by subst e;omega
variable{m:Int}
def QA(C:-2000<=m)(j:m<=20000):1<=(QB m).length/\(QB m).length<=30:=by
 have:=Eo (u:=m.natAbs/1000) n';unfold QB d3;simp only[cd,c6,ew];split<;>simp<;>omega
theorem RS(h0:-2000<=m)(U:m<=20000):Df m=bN (QB m):=by
 have R:Ba m=bN b9:=by
  unfold Ba;rw[FV];simp[h0,U]
 have hl:=Eo (u:=m.natAbs/1000) n';unfold Df;rw[R];simp only[dc,bI,ed,if_false]
 have hd:∀z:Int,z=(m.natAbs:Int)->eL.wrap (z.tdiv 1000)=((m.natAbs/1000:Nat):Int)/\z.tmod 1000=((m.natAbs%1000:Nat):Int):=by
  rintro z rfl;rw[cB n',ct n',Z1 n'];omega
 have I:=AEd (n:=m.natAbs%1000) n';have J:Av ((m.natAbs/1000:Nat):Int)=bN (b8 (m.natAbs/1000)):=by rw[Kv ⟨n',n'⟩,Kl]
 have h3:(d3 (m.natAbs%1000)).length=3:=rfl
 by_cases j:m<0
 .have C:EU m=bN (m.natAbs:Int):=by
   unfold EU;rw[if_pos (by simpa using j),Z1 n']
   congr 1;omega
  obtain⟨d1,d2⟩:=hd _ rfl;rw[if_pos (by simpa using j),C];simp only[dc,d1,d2,J,I];rw[Oa x',AB,As t',AB,As t',AB,As t',AB];unfold QB;rw[if_pos j]
 .have C:EU m=bN (m.natAbs:Int):=by
   unfold EU;rw[if_neg (by simpa using j)]
   congr 1;omega
  obtain⟨d1,d2⟩:=hd _ rfl;rw[if_neg (by simpa using j),C];simp only[dc,d1,d2,J,I];rw[Oa x',AB,As t',AB,As t',AB,As t',AB];unfold QB;rw[if_neg j]
def rj(h:n<10):BE (n:Int)=bN [dg n]:=by
 rw[KL (n:=(n:Int)) ⟨n',n'⟩,Kl,AFw h]
def oI{n:Nat}(h:n<=999):JB (n:Int)=bN (d3 n):=by
 unfold JB;have I:eL.wrap ((n:Int).tdiv 100)=((n/100:Nat):Int):=by rw[cB n',Z1 n'];omega
 have C:(eL.wrap ((n:Int).tdiv 10)).tmod 10=((n/10%10:Nat):Int):=by rw[cB n',Z1 n',ct n'];omega
 have j:(n:Int).tmod 10=((n%10:Nat):Int):=by rw[ct n'];omega
 rw[I,C,j,rj (show n/100<10 by omega),rj (show n/10%10<10 by omega),rj (show n%10<10 by omega)];rfl
theorem Qw(h0:-2000<=m)(U:m<=20000):Ch m=bN (QB m):=by
 have J:=Eo (u:=m.natAbs/1000) n'
 have hd:∀z:Int,z=(m.natAbs:Int)->eL.wrap (z.tdiv 1000)=((m.natAbs/1000:Nat):Int)/\z.tmod 1000=((m.natAbs%1000:Nat):Int):=by
  rintro z rfl;rw[cB n',ct n',Z1 n'];omega
 have C:=oI (n:=m.natAbs%1000) n';have I:BE ((m.natAbs/1000:Nat):Int)=bN (b8 (m.natAbs/1000)):=by rw[KL ⟨n',n'⟩,Kl]
 have R:(d3 (m.natAbs%1000)).length=3:=rfl;unfold Ch
 by_cases j:m<0
 .obtain⟨d1,d2⟩:=hd (eL.wrap (0-m)) (by rw[Z1 n'];omega);rw[if_pos (by simpa using j)];simp only[d1,d2,I,C,dc];rw[Oa x',AB,As t',AB,As t',AB,As t',AB];unfold QB;rw[if_pos j]
 .obtain⟨d1,d2⟩:=hd m n';rw[if_neg (by simpa using j)];simp only[d1,d2,I,C,dc];rw[Oa x',AB,As t',AB,As t',AB,As t',AB];unfold QB;rw[if_neg j]
def ABh(h:Xl c=b9):c≠32/\c≠10:=by
 have:=NR.1 h;constructor<;>(rintro rfl;simp at this)
def TE(n:Int):∀c,c∈c7 n->c≠32/\c≠10:=by
 intro c j;unfold c7 at j;split at j
 .rcases g'.1 j with rfl|j
  .decide
  .exact ABh (db.1 (RH _) c j)
 .exact ABh (db.1 (RH _) c j)
def tT(h:KZ s=b9):∀c,c∈s->c≠32/\c≠10:=by
 intro c j;unfold KZ at h;simp only[kb]at h;obtain⟨i,hi,rfl⟩:=e9 j;have:=TL.1 h.2.2 i hi;rw[Cl hi]at this;unfold mf at this;constructor
 .intro e;rw[e]at this;revert this;cases(i==0)<;>decide
 .intro e;rw[e]at this;revert this;cases(i==0)<;>decide
variable{e:AU}
def XP(h:KT e=b9):KZ e.What=b9:=by
 unfold KT at h;simp only[kb]at h;exact h.1.2
def oC(h:KT e=b9)(st:Int):BU 32 (NW st e)=[c7 e.Day,e.What,c7 e.Value,c7 st]:=by
 have C:NW st e=Pf 32 [c7 e.Day,e.What,c7 e.Value,c7 st]:=by
  rw[iq];simp[NW,IE]
 rw[C];refine Zm 32 _ p' fun p j=>?_
 simp only[g',List.not_mem_nil,or_false]at j;rcases j with rfl|rfl|rfl|rfl
 .exact fun c=>(TE _ _ c).1 rfl
 .exact fun c=>(tT (XP h) _ c).1 rfl
 .exact fun c=>(TE _ _ c).1 rfl
 .exact fun c=>(TE _ _ c).1 rfl
def AAm(h:KT e=b9)(st:Int):10 ∉ NW st e:=by
 intro j;simp only[NW,IE,dU,h7]at j;rcases j with (((((j|j)|j)|j)|j)|j)|j
 .exact(TE _ _ j).2 rfl
 .exact absurd j x'
 .exact(tT (XP h) _ j).2 rfl
 .exact absurd j x'
 .exact(TE _ _ j).2 rfl
 .exact absurd j x'
 .exact(TE _ _ j).2 rfl
def xZ(h:KT e=b9){last j:Int}(hd:j<=e.Day):Vn last j (NW (Cn last e) e)=bN (e,Cn last e):=by
 have C:=TB h;unfold Vn;rw[oC h];unfold psP XO;dsimp only;rw[Sz (n:=e.Day) n' n',Sz (n:=e.Value) n' n'];obtain⟨d,s,v⟩:=e;simp only[h,hT,decide_true,cI,ca,hd,if_true]
def Qf:Int->List AU->Prop
 |_,[]=>True
 |d,e::es=>d<=e.Day/\Qf e.Day es
def QD:Int->List AU->Int
 |last,[]=>last
 |last,e::es=>QD (Cn last e) es
def aA{log:L8}:∀(es done:List AU) (i:Nat) (last:Int) (f:Nat),log.drop i=Ft last es->i<=log.length->Qf (EO done) es->(∀e,e∈es->KT e=b9)->0<=last->last<=65520->es.length<f ->
  Rz log f (done,i,last)=(done++es,log.length,QD last es)
 | [],done,i,last,f,hd,hi,_,_,_,_,J=>by
  obtain⟨f',rfl⟩:∃f',f=f'+1:=⟨f-1,by simp at J;omega⟩;have hd:log.drop i=[]:=hd;have hlen:i=log.length:=by have:=congrArg e4 hd;simp at this;omega
  unfold Rz Np;simp only[hd];rw[Ui p'];simp[hlen,QD]
 | e::es,done,i,last,f,hd,hi,hs,R,h0,h1,J=>by
  obtain⟨f',rfl⟩:∃f',f=f'+1:=⟨f-1,by simp at J;omega⟩;have j:=R e p';obtain⟨_,_,U,s1⟩:=Lu j h0 h1;have hd:log.drop i=NW (Cn last e) e++10::Ft (Cn last e) es:=hd;have hlen:=congrArg e4 hd;simp only[e7,cd,c6]at hlen
  have C:Np log i last (EO done)=bN (i+(NW (Cn last e) e).length+1,e,Cn last e):=by
   unfold Np;rw[hd,RI (AAm j _)];simp only[xZ j hs.1,hH]
  have I:log.drop (i+(NW (Cn last e) e).length+1)=Ft (Cn last e) es:=by
   rw[fB,←hP,hd,←hP,List.drop_left];rfl
  have hm:=aA es (done++[e]) (i+(NW (Cn last e) e).length+1) (Cn last e) f' I n' (by rw[bc];exact hs.2) (fun x hx=>R x (by simp[hx])) U s1 (by simp at J;omega);unfold Rz;simp only[C];rw[hm];simp[QD]
def ib{es:List AU}(hs:Qf 0 es)(j:∀e,e∈es->KT e=b9):(EI (Ft 0 es)).1=es/\(EI (Ft 0 es)).2.1=(Ft 0 es).length/\(EI (Ft 0 es)).2.2=QD 0 es:=by
 have hm:=aA (log:=Ft 0 es) es [] 0 0 ((Ft 0 es).length+1) rfl (eg _) hs j n' n' (by have:=iY es 0 j n' n';omega);unfold EI;rw[hm];exact⟨rfl,rfl,rfl⟩
def AAp{es:List AU}{d:Int}(C:0<=d)(j:es.length<=1048576):
  ((b5 (0<(es.length:Int)))&&(b5 (d<((es.getD (eL.wrap ((es.length:Int)-1)).toNat ay).Day))))=b5 (d<EO es):=by
 unfold EO
 by_cases h:es.length=0
 .have e:b5 ((0:Int)<(es.length:Int))=false:=decide_eq_false n';rw[e,if_pos h,cn];exact(decide_eq_false n').symm
 .have e:b5 ((0:Int)<(es.length:Int))=true:=decide_eq_true n';have w:eL.wrap ((es.length:Int)-1)=((es.length-1:Nat):Int):=by rw[Z1 n'];omega
  rw[e,if_neg h,ca,w,fi]
def UQ:∀(es:List AU) (last:Int) (e:AU),Ft last (es++[e])=Ft last es++(((IE e++[32])++c7 (Cn (QD last es) e))++[10])
 |[],last,e=>by simp[Ft,NW,QD]
 | x::es,last,e=>by
  have j:=UQ es (Cn last x) e;simp only[eo,Ft,j,QD];simp
def AEv{es:List AU}{d:Int}(C:0<=d)(j:es.length<=1048576):
  ((b5 (0<(es.length:Int)))&&(b5 (d<((es.getD (eL.wrap ((es.length:Int)-1)).toNat ay).Day))))=b5 (d<EO es):=by
 unfold EO
 by_cases h:es.length=0
 .have e:b5 ((0:Int)<(es.length:Int))=false:=decide_eq_false n';rw[e,if_pos h,cn];exact(decide_eq_false n').symm
 .have e:b5 ((0:Int)<(es.length:Int))=true:=decide_eq_true n';have w:eL.wrap ((es.length:Int)-1)=((es.length-1:Nat):Int):=by rw[Z1 n'];omega
  rw[e,if_neg h,ca,w,fi]
def fw{log:L8}{e:AU}(U:log.length<=1048576):∃(out:L8) (c:Int),Fk log e=bN (out,c)/\Du log e=bN (out,c):=by
 unfold Fk Du;obtain⟨r,e1,hr⟩:=Qv U;obtain⟨es,last,e2,h1,h2⟩:=Rm U;rw[e1,e2];simp only[dc]
 by_cases h:Gu log=0
 .obtain⟨rfl,rfl⟩:=h1 h;obtain rfl:=hr h;obtain⟨b1,b2,b3⟩:=WJ h;have hi:=QC log;have I:(Gu log==0)=b9:=by rw[h];rfl
  simp only[I,bI,ed,if_false,oG,Pk,dc];cases j:KT e
  .exact⟨_,_,rfl,rfl⟩
  .have C:=TB j
   have k:(!(b5 (0<((EI log).1.length:Int)))||AS (eL.wrap (((EI log).1.length:Int)-1)) (EI log).1.length)=b9:=by
    by_cases c:(EI log).1.length=0
    .simp[c]
    .rw[Z1 n',Z2 n',bX]
   rw[ABj (log:=log) (s:=EI log) n'];simp only[bI,ed,if_false,k,AB,dc,AEv (es:=(EI log).1) (d:=e.Day) C.1 n'];cases hd:b5 (e.Day<EO (EI log).1)
   .obtain⟨s1,s2,R,J⟩:=Lu j hi.lo hi.hi;have lw:=Ms j;have ls:=Fv (n:=Cn (EI log).2.2 e) ⟨n',n'⟩;simp only[ed,if_false,PJ j,dc,show(Ws log (EI log)).stamp_=(EI log).2.2 from rfl,s1,s2,aU j R J,ic j R J];rw[As t',AB];split
    .exact⟨_,_,rfl,rfl⟩
    .exact⟨_,_,rfl,rfl⟩
   .exact⟨_,_,rfl,rfl⟩
 .have I:(Gu log==0)=false:=beq_eq_false_iff_ne.2 h;simp only[I,c8,if_true];exact⟨_,_,rfl,rfl⟩
