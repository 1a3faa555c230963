/- Lemmas. No condition. -/
import Derived.Test.YtegmpdmpgmpiaaaGreatDoorP3
import Derived.Shelf.Spec.SlicesInsertGrow
open Array renaming size_append->bX,getElem?_append_left->dx,getElem?_setIfInBounds->e4,getElem?_eq_getElem->ew,getElem?_toList->gf,getElem?_modify->gk
open Bool renaming false->e1,true->h4,noConfusion->h9
open Go renaming undef->b',grownCap->dU,run_firstCells_some->e2,World->ea,info_parts->h6,TypeId->hy,block_lt_of_cell->hB,heap_alloc_new->hJ,growslice_fits->hK,Calls->hQ,grownCap_ge->hT,goInt->hV,run_storeCells_cells->j1,callFunc->j2,run_firstCells_none->j4,run_callFunc_extern->j5,run_append_room_src->j6,run_append_grow_src->j7,grownCap_le_maxLen->j8,Src->jm
open Go.Act renaming eval->ha,put->hE
open Go.Addr renaming add_lit->ca
open Go.Builtin renaming zeroCells->a7,copy_->cS,append_->fA,firstCells->h7,lenOf->i'
open Go.IntKind renaming wrap_i64->cI
open Go.Lib renaming wpList_append_run->cA,run_append_grow_zeros->hX,run_overlaps_apart->iB
open Go.Proofs renaming isSome_setCells->hD,step_copy_runI->hM,enters_of->hW
open Go.Proofs.Tryz renaming prog->a',func247->ho,func208->hq,ntmps247->hH,ntmps208->hI
open Go.Proofs.YtegmpdmpgmpiaaaGreatDoor.AV renaming fresh->bR
open Go.Src renaming ofSlice->hA
open Go.Value renaming cells->bN
open Go.World renaming cell?_setCells_out->fB,frozen?_setCells->ga,cell?_alloc_past->gb,frozen?->hC,shape?->hL,cell?->hP,frozen?_alloc_at->ih,cell?_alloc_at->ix,setCells->j3
open List renaming length_take->bS,getElem?_take->cd,size_toArray->cm,getElem?_drop->dT,length_drop->d',getElem?_append_right->ed,length_cons->eu,getElem?_append_left->eL,getElem?_toArray->g',mem_of_mem_drop->h5,length_append->h8,map->hO,length_eq_zero_iff->hY,getElem?_cons_succ->hZ,length_singleton->ir,getElem_of_mem->iI,getD_cons_succ->iN,getElem_mem->iS,all_eq_true->iZ,length_nil->j0
open Nat renaming zero_add->cB,sub_mul->fI,min_def->f',le_refl->hR,eq_zero_or_pos->iR,lt_irrefl->j9,zero_mul->jn
open Option renaming some->b8,none->bI
set_option linter.defProp false
set_option linter.unusedSimpArgs false
set_option linter.unusedVariables false
set_option maxHeartbeats 4000000
open Go.IntKind (i64 u64)
namespace Go.Proofs.YtegmpdmpgmpiaaaGreatDoor.insEstimate
open Go Go.RowKit Go.Lib Go.Proofs.YtegmpdmpgmpiaaaGreatDoor
def uS:a'.underlying 30=b8 (.slice 89):=o'
def iE:(a'.info? 89).map (fun i=>(i.zero,i.size,i.bytes))=b8 (b8 (.agg #[.int .i64 0,.string ⟨#[]⟩,.string ⟨#[]⟩,.int .i64 0,.bool e1]),5,56):=o'
def mixed:a'.follows Departure.mixedOrders=h4:=o'
def MJ(k:Nat):(a7 (bN (.agg #[.int .i64 0,.string ⟨#[]⟩,.string ⟨#[]⟩,.int .i64 0,.bool e1])) k).size=k*5:=by
 simp[a7,bN]
def LC(w:ea)(ty:hy)(b o J U:Nat)(a:Addr)(C I m:Nat)(cs:List Value)
  (hm:m=Nat.min C J) (hl:cs.length=m*5)
  (R:∀j v,cs[j]? = b8 v->w.cell? (a.add j)=b8 v) (hc:∀j,j<cs.length->(w.cell? ⟨b,o+j,bI⟩).isSome=h4) (hf:∀j,j<cs.length->w.frozen? ⟨b,o+j,bI⟩=e1) (h1:∀v∈cs,v.oneCell'=h4) :
  (cS #[30,30] ty #[.slice (b8 ⟨b,o,bI⟩) J U,.slice (b8 a) C I]).run a' w = .ok (hV m) (w.setCells b o cs):=by
 have ab:=j1 (P:=a') b o cs 0 w (by simpa using hc) (by simpa using hf) h1;obtain⟨i0,ae,ao,aa,aj⟩:=h6 iE;have ad:=e2 (P:=a') w 5 m a C I cs hl R;simp[cS,run_underlying uS,i',sizeOf,typeInfo,ae,aa,←hm,ad,ab]
def ABG(w:ea)(C j vc b o lb cb:Nat)(R:C≠b)(tA tB:hy)(J I:Nat)(aa:w.shape? C=b8 (tA,J))(U:w.shape? b=b8 (tB,I))(ab:I≠0)
  (ae:w.frozen? ⟨C,j,bI⟩=e1) (ad:w.frozen? ⟨C,J,bI⟩=e1) :
  (j2 248 #[.slice (b8 ⟨C,j,bI⟩) 1 vc,.slice (b8 ⟨b,o,bI⟩) lb cb]).run a' w = .ok (.value (.bool e1)) w:=by
 rw[j5 Tryz.func248 o' o' o' (e:=Extern.SlicesOverlaps.overlaps #[30,30] #[4]) o',
  iB w 30 4 89 uS 5 Tryz.sizeOf89 ⟨C,j,bI⟩ ⟨b,o,bI⟩ 1 vc lb cb R tA tB J I aa U ab ae ad]
 rfl
set_option maxRecDepth 100000 in
def shift(b n c i vb voff vc:Nat)(cs vs:List Value)(w:ea)(hi:i<n)(hroom:n+1<=c)(hn63:n+1<=9223372036854775807)(hvb:vb≠b)
  (hcl:cs.length=n*5) (hvl:vs.length=5)
  (hcs:∀j v,cs[j]? = b8 v->w.cell? ⟨b,j,bI⟩=b8 v) (hsp:∀j,j<(n+1)*5->(w.cell? ⟨b,j,bI⟩).isSome=h4) (hfz:∀j,j<(n+1)*5->w.frozen? ⟨b,j,bI⟩=e1)
  (hvs:∀j v,vs[j]? = b8 v->w.cell? ⟨vb,voff+j,bI⟩=b8 v) (h1c:∀v∈cs,v.oneCell'=h4) (h1v:∀v∈vs,v.oneCell'=h4)
  (tA tB:hy) (kA kB:Nat) (hsa:w.shape? vb=b8 (tA,kA)) (hsb:w.shape? b=b8 (tB,kB)) (hkB:kB≠0) (hfa:w.frozen? ⟨vb,voff,bI⟩=e1) (hfe:w.frozen? ⟨vb,kA,bI⟩=e1) :
  hQ a' 208 #[.slice (b8 ⟨b,0,bI⟩) n c,.int .i64 i,.slice (b8 ⟨vb,voff,bI⟩) 1 vc] w fun e w'=>
   e = .returned (.slice (b8 ⟨b,0,bI⟩) (n+1) c)/\w'=(w.drew.setCells b ((i+1)*5) (cs.drop (i*5))).setCells b (i*5) vs:=by
 have mixed:=mixed;have hz2:¬ ((i:Int)=(n:Int)):=n'
 have hov:∀lb cb,(j2 248 #[.slice (b8 ⟨vb,voff,bI⟩) 1 vc,.slice (b8 ⟨b,(i+1)*5,bI⟩) lb cb]).run a' w = .ok (.value (.bool e1)) w:=fun lb cb=>ABG w vb voff vc b ((i+1)*5) lb cb hvb tA tB kA kB hsa hsb hkB hfa hfe
 have hdl:(cs.drop (i*5)).length=(n-i)*5:=by rw[d',hcl,fI]
 have hw1:i64.wrap ((i:Int)+1)=(i:Int)+1:=by rw[cI];omega
 have hw2:i64.wrap ((n:Int)+1)=(n:Int)+1:=by rw[cI];omega
 have hb1:(0:Int)<=(i:Int)+1:=n'
 have hin:i<=n:=n'
 have htn:((i:Int)+1).toNat=i+1:=n'
 have hb2:¬ (c=i+1):=n'
 have hb3:(i:Int)<=(n:Int)+1:=n'
 have hb4:¬ (c=i):=n'
 have hb5:¬ ((c:Int)<(n:Int)+1):=n'
 have hcp1:∀ty dc sc,(cS #[30,30] ty #[.slice (b8 ⟨b,(i+1)*5,bI⟩) (n-i) dc,.slice (b8 ⟨b,i*5,bI⟩) (n+1-i) sc]).run a' w.drew = .ok (hV ((n-i:Nat):Int)) (w.drew.setCells b ((i+1)*5) (cs.drop (i*5))):=fun ty dc sc=>
  LC w.drew ty b ((i+1)*5) (n-i) dc ⟨b,i*5,bI⟩ (n+1-i) sc (n-i) (cs.drop (i*5)) (by simp only[f'];split<;>omega) hdl
   (fun j v hj=>by rw[ca];exact hcs (i*5+j) v (by rwa [dT]at hj))
   (fun j hj=>hsp _ (by rw[hdl]at hj;omega)) (fun j hj=>hfz _ (by rw[hdl]at hj;omega)) (fun v hv=>h1c v (h5 hv))
 obtain⟨W1,hW1⟩:∃W1,W1=w.drew.setCells b ((i+1)*5) (cs.drop (i*5)):=⟨_,rfl⟩
 have hsp1:∀k,k<(n+1)*5->(W1.cell? ⟨b,k,bI⟩).isSome=true:=fun k hk=>by
  rw[hW1];exact hD b (cs.drop (i*5)) ((i+1)*5) w.drew (fun j hj=>hsp ((i+1)*5+j) (by rw[hdl]at hj;omega)) k (hsp k hk)
 have hcp2:∀(W:ea),(∀x,W.cell? x=W1.cell? x)->(∀x,W.frozen? x=W1.frozen? x)->∀ty dc,(cS #[30,30] ty #[.slice (b8 ⟨b,i*5,bI⟩) (n+1-i) dc,.slice (b8 ⟨vb,voff,bI⟩) 1 vc]).run a' W = .ok (hV 1) (W.setCells b (i*5) vs):=fun W hWc hWf ty dc=>
  LC W ty b (i*5) (n+1-i) dc ⟨vb,voff,bI⟩ 1 vc 1 vs (by simp only[f'];split<;>omega) (by rw[hvl])
   (fun j v hj=>by
    rw[ca,hWc,hW1,fB b _ _ _ _ (fun h _=>absurd h hvb)];exact hvs j v hj)
   (fun j hj=>by rw[hWc];exact hsp1 _ n') (fun j hj=>by rw[hWf,hW1,ga];exact hfz _ n') h1v
 rw[←hW1]at hcp1
 go_enter hq,hI
 go_wp2_with (simp only[hov])
 go_region_law_o (refine hM rfl _ _ 30 30 rfl _ _ (by simp[ha,hE]) (by simp[ha,hE]) (hcp1 _ _ _) ?_)
 go_wp2_with (at_builtin;refine wpList_copy_runI _ rfl _ _ 30 30 rfl _ _ rfl rfl (hcp2 _ (fun _=>rfl) (fun _=>rfl) _ _) ?_)
 go_ret
 first|exact⟨rfl,rfl⟩|exact⟨rfl,by rw[hW1]⟩
set_option maxRecDepth 100000 in
def kr(b n c vb voff vc:Nat)(vs:List Value)(w:ea)(hroom:n+1<=c)(hn63:n+1<=9223372036854775807)(hvl:vs.length=5)
  (hsp:∀j,j<5->(w.cell? ⟨b,n*5+j,bI⟩).isSome=h4) (hfz:∀j,j<5->w.frozen? ⟨b,n*5+j,bI⟩=e1)
  (hvs:∀j v,vs[j]? = b8 v->w.cell? ⟨vb,voff+j,bI⟩=b8 v) (h1v:∀v∈vs,v.oneCell'=h4) :
  hQ a' 208 #[.slice (b8 ⟨b,0,bI⟩) n c,.int .i64 n,.slice (b8 ⟨vb,voff,bI⟩) 1 vc] w fun e w'=>
   e = .returned (.slice (b8 ⟨b,0,bI⟩) (n+1) c)/\w'=w.setCells b (n*5) vs:=by
 obtain⟨i0,hi0,hz0,hzs,hzb⟩:=h6 iE
 have hsrc:jm a' i0.size 30 (.slice (b8 ⟨vb,voff,bI⟩) 1 vc) 1 vs w:=by
  rw[hzs];exact hA w uS ⟨vb,voff,bI⟩ 1 vc vs n' (fun j u hj=>by rw[ca];exact hvs j u hj) h1v
 have hrun:∀ty,(fA #[30,30] ty #[.slice (b8 ⟨b,0,bI⟩) n c,.slice (b8 ⟨vb,voff,bI⟩) 1 vc]).run a' w = .ok (.slice (b8 ⟨b,0,bI⟩) (n+1) c) (w.setCells b (n*5) vs):=fun ty=>by
  have h:=j6 w 30 30 ty 89 i0 uS hi0 b 0 n c (.slice (b8 ⟨vb,voff,bI⟩) 1 vc) 1 vs hsrc hroom (fun j hj=>by rw[hzs,cB];exact hsp j n') (fun j hj=>by rw[hzs,cB];exact hfz j n');rw[hzs,cB]at h;exact h
 have hn63:¬ ((n:Int)<0):=n'
 go_enter hq,hI
 go_wp2_with (at_builtin;refine cA _ rfl _ _ _ _ rfl _ _ rfl rfl _ _ (hrun _) ?_)
 go_ret
 exact⟨rfl,rfl⟩
set_option maxRecDepth 100000 in
def kt(base:Option Addr)(n c vb voff vc:Nat)(cs vs:List Value)(w:ea)(hnc:n<=c)(hroom:c<n+1)(hbig:(n+1)*56<=140737488355328)
  (hcl:cs.length=n*5) (hvl:vs.length=5) (hnil:base=bI->n=0)
  (hcs:∀a,base=b8 a->∀j v,cs[j]? = b8 v->w.cell? (a.add j)=b8 v)
  (hvs:∀j v,vs[j]? = b8 v->w.cell? ⟨vb,voff+j,bI⟩=b8 v) (h1v:∀v∈vs,v.oneCell'=h4) :
  hQ a' 208 #[.slice base n c,.int .i64 n,.slice (b8 ⟨vb,voff,bI⟩) 1 vc] w fun e w'=>
   e = .returned (.slice (b8 ⟨w.heap.size,0,bI⟩) (n+1) (dU w (n+1) c 89)) /\
   w'=w.drew.alloc (.cells ((cs++vs).toArray++a7 (bN (.agg #[.int .i64 0,.string ⟨#[]⟩,.string ⟨#[]⟩,.int .i64 0,.bool e1])) (dU w (n+1) c 89-(n+1))) 89):=by
 obtain⟨i0,hi0,hz0,hzs,hzb⟩:=h6 iE
 have hsrc:jm a' i0.size 30 (.slice (b8 ⟨vb,voff,bI⟩) 1 vc) 1 vs w:=by
  rw[hzs];exact hA w uS ⟨vb,voff,bI⟩ 1 vc vs n' (fun j u hj=>by rw[ca];exact hvs j u hj) h1v
 have hold:(h7 i0.size n (.slice base n c)).run a' w.drew = .ok cs.toArray w.drew:=by
  rw[hzs];cases base with
  | none=>
   have h0:=hnil rfl;subst h0;rw[hY.1 (show cs.length=0 by omega)];exact j4 w.drew 5 0 0 c
  |some a=>exact e2 w.drew 5 n a n c cs hcl (fun j v hj=>hcs a rfl j v hj)
 have hrun:∀ty,(fA #[30,30] ty #[.slice base n c,.slice (b8 ⟨vb,voff,bI⟩) 1 vc]).run a' w=_:=fun ty=>
  j7 w 30 30 ty 89 i0 _ uS hi0 hz0 base n c cs hold _ 1 vs hsrc hroom n' (by rw[hzb];exact hK hroom hbig)
 go_enter hq,hI
 cases base with
 | none=>
  have h0:=hnil rfl;subst h0
  go_wp2_with (at_builtin;refine cA _ rfl _ _ _ _ rfl _ _ rfl rfl _ _ (hrun _) ?_)
  go_ret
  exact⟨rfl,rfl⟩
 | some a=>
  obtain⟨ab,ao,asp⟩:=a
  go_wp2_with (at_builtin;refine cA _ rfl _ _ _ _ rfl _ _ rfl rfl _ _ (hrun _) ?_)
  all_goals(go_ret;exact⟨rfl,rfl⟩)
set_option maxRecDepth 100000 in
def grow(b n c i vb voff vc:Nat)(cs vs:List Value)(w:ea)(hi:i<n)(hnc:n<=c)(hroom:c<n+1)(hbig:(n+1)*56<=140737488355328)
  (hcl:cs.length=n*5) (hvl:vs.length=5)
  (hcs:∀j v,cs[j]? = b8 v->w.cell? ⟨b,j,bI⟩=b8 v)
  (hvs:∀j v,vs[j]? = b8 v->w.cell? ⟨vb,voff+j,bI⟩=b8 v) (h1c:∀v∈cs,v.oneCell'=h4) (h1v:∀v∈vs,v.oneCell'=h4) :
  hQ a' 208 #[.slice (b8 ⟨b,0,bI⟩) n c,.int .i64 i,.slice (b8 ⟨vb,voff,bI⟩) 1 vc] w fun e w'=>
   e = .returned (.slice (b8 ⟨w.heap.size,0,bI⟩) (n+1) (dU w (n+1) c 89)) /\
   w'=(((w.alloc (.cells ((cs.take (i*5)).toArray++a7 (bN (.agg #[.int .i64 0,.string ⟨#[]⟩,.string ⟨#[]⟩,.int .i64 0,.bool e1])) (n+1-i)++a7 (bN (.agg #[.int .i64 0,.string ⟨#[]⟩,.string ⟨#[]⟩,.int .i64 0,.bool e1])) (dU w (n+1) c 89-(n+1))) 89)).drew.setCells w.heap.size (i*5) vs).drew).setCells w.heap.size ((i+1)*5) (cs.drop (i*5)):=by
 have mixed:=mixed;obtain⟨i0,hi0,hz0,hzs,hzb⟩:=h6 iE;have hz2:¬ ((i:Int)=(n:Int)):=n'
 have hz3:(c:Int)<(n:Int)+1:=n'
 have hbw:b<w.heap.size:=hB (hcs 0 _ (geE n'));have hvw:vb<w.heap.size:=hB (hvs 0 _ (geE n'));have hkk:(n:Int)+1-(i:Int)=((n+1-i:Nat):Int):=n'
 have hik:i+(n+1-i)=n+1:=n'
 have hold:(h7 i0.size i (.slice (b8 ⟨b,0,bI⟩) i c)).run a' w.drew = .ok (cs.take (i*5)).toArray w.drew:=by
  rw[hzs]
  exact e2 w.drew 5 i ⟨b,0,bI⟩ i c (cs.take (i*5)) (by rw[bS];omega) (fun j v hj=>by
   rw[ca,cB];rw[cd]at hj;split at hj
   .exact hcs j v hj
   .cases hj)
 have hrz:∀ty,(fA #[30,3] ty #[.slice (b8 ⟨b,0,bI⟩) i c,.int .i64 ((n:Int)+1-(i:Int))]).run a' w =
   .ok (.slice (b8 ⟨w.heap.size,0,bI⟩) (n+1) (dU w (n+1) c 89)) (w.drew.alloc (.cells ((cs.take (i*5)).toArray++a7 (bN (.agg #[.int .i64 0,.string ⟨#[]⟩,.string ⟨#[]⟩,.int .i64 0,.bool e1])) (n+1-i)++a7 (bN (.agg #[.int .i64 0,.string ⟨#[]⟩,.string ⟨#[]⟩,.int .i64 0,.bool e1])) (dU w (n+1) c 89-(n+1))) 89)):=fun ty=>by
  have h:=hX w 30 3 ty 89 i0 _ .i64 .i64 uS o' hi0 hz0 (b8 ⟨b,0,bI⟩) i c (cs.take (i*5)) hold (n+1-i) n' n' n' n' (by rw[hzb];omega) (by rw[hzb,hik];exact hK hroom hbig);rw[hik]at h;rw[hkk];exact h
 obtain⟨G,hG⟩:∃G,G=dU w (n+1) c 89:=⟨_,rfl⟩;obtain⟨ROW,hROW⟩:∃ROW:Array Value,ROW=(cs.take (i*5)).toArray++a7 (bN (.agg #[.int .i64 0,.string ⟨#[]⟩,.string ⟨#[]⟩,.int .i64 0,.bool e1])) (n+1-i)++a7 (bN (.agg #[.int .i64 0,.string ⟨#[]⟩,.string ⟨#[]⟩,.int .i64 0,.bool e1])) (G-(n+1)):=⟨_,rfl⟩;rw[←hG]at hrz ⊢;rw[←hROW]at hrz ⊢;have hzl:∀k,(a7 (bN (.agg #[.int .i64 0,.string ⟨#[]⟩,.string ⟨#[]⟩,.int .i64 0,.bool e1])) k).size=k*5:=MJ
 have hRl:(n+1)*5<=ROW.size:=by
  rw[hROW,bX,bX,hzl,hzl,cm,bS];omega
 obtain⟨W1,hW1⟩:∃W1,W1=w.drew.alloc (.cells ROW 89):=⟨_,rfl⟩;rw[←hW1]at hrz
 have hN:∀j,j<(n+1)*5->(W1.cell? ⟨w.heap.size,j,bI⟩).isSome=true:=fun j hj=>by
  rw[hW1,ix (w:=w.drew) ROW _ w.heap.size j rfl,ew n'];rfl
 have hNf:∀j,W1.frozen? ⟨w.heap.size,j,bI⟩=false:=fun j=>by rw[hW1];exact ih (w:=w.drew) ROW _ w.heap.size j rfl
 have hOb:∀j v,w.cell? ⟨b,j,bI⟩=b8 v->W1.cell? ⟨b,j,bI⟩=b8 v:=fun j v h=>by rw[hW1,gb (w:=w.drew) _ b j hbw];exact h
 have hOv:∀j v,w.cell? ⟨vb,j,bI⟩=b8 v->W1.cell? ⟨vb,j,bI⟩=b8 v:=fun j v h=>by rw[hW1,gb (w:=w.drew) _ vb j hvw];exact h
 have hcpA:∀(W:ea),(∀x,W.cell? x=W1.cell? x)->(∀x,W.frozen? x=W1.frozen? x)->∀ty dc,(cS #[30,30] ty #[.slice (b8 ⟨w.heap.size,i*5,bI⟩) (n+1-i) dc,.slice (b8 ⟨vb,voff,bI⟩) 1 vc]).run a' W = .ok (hV 1) (W.setCells w.heap.size (i*5) vs):=fun W hWc hWf ty dc=>
  LC W ty w.heap.size (i*5) (n+1-i) dc ⟨vb,voff,bI⟩ 1 vc 1 vs (by simp only[f'];split<;>omega) (by rw[hvl])
   (fun j v hj=>by rw[ca,hWc];exact hOv _ v (hvs j v hj))
   (fun j hj=>by rw[hWc];exact hN _ n') (fun j hj=>by rw[hWf];exact hNf _) h1v
 have hGn:n+1<=G:=by rw[hG];exact hT w _ _ _
 have hG63:G<=9223372036854775807:=by
  have:=j8 w (n+1) c 89 (by unfold maxLen;omega);rw[←hG]at this;unfold maxLen at this;omega
 have hGi:¬ (G=i):=n'
 have hGim:¬ (G=i+1):=n'
 have hci:¬ (c=i):=n'
 have hbN:b≠w.heap.size:=n'
 have hdl:(cs.drop (i*5)).length=(n-i)*5:=by rw[d',hcl,fI]
 have hcpB:∀(W:ea),(∀x,W.cell? x=(W1.setCells w.heap.size (i*5) vs).cell? x)->(∀x,W.frozen? x=(W1.setCells w.heap.size (i*5) vs).frozen? x)->∀ty dc sc,(cS #[30,30] ty #[.slice (b8 ⟨w.heap.size,(i+1)*5,bI⟩) (n-i) dc,.slice (b8 ⟨b,i*5,bI⟩) (n-i) sc]).run a' W = .ok (hV ((n-i:Nat):Int)) (W.setCells w.heap.size ((i+1)*5) (cs.drop (i*5))):=fun W hWc hWf ty dc sc=>
  LC W ty w.heap.size ((i+1)*5) (n-i) dc ⟨b,i*5,bI⟩ (n-i) sc (n-i) (cs.drop (i*5)) (by simp only[f'];split<;>omega) hdl
   (fun j v hj=>by
    rw[ca,hWc,fB _ _ _ _ _ (fun h _=>absurd h hbN)];exact hOb _ v (hcs (i*5+j) v (by rwa [dT]at hj)))
   (fun j hj=>by rw[hWc];exact hD _ vs (i*5) W1 (fun t ht=>hN (i*5+t) n') _ (hN _ (by rw[hdl]at hj;omega)))
   (fun j hj=>by rw[hWf,ga];exact hNf _) (fun v hv=>h1c v (h5 hv))
 subst hW1;have hE1:∀x,((w.alloc (.cells ROW 89)).drew).cell? x=(w.drew.alloc (.cells ROW 89)).cell? x:=fun x=>rfl
 have hE2:∀x,((w.alloc (.cells ROW 89)).drew).frozen? x=(w.drew.alloc (.cells ROW 89)).frozen? x:=fun x=>rfl
 have hF1:∀x,(((w.alloc (.cells ROW 89)).drew.setCells w.heap.size (i*5) vs).drew).cell? x=((w.drew.alloc (.cells ROW 89)).setCells w.heap.size (i*5) vs).cell? x:=fun x=>rfl
 have hF2:∀x,(((w.alloc (.cells ROW 89)).drew.setCells w.heap.size (i*5) vs).drew).frozen? x=((w.drew.alloc (.cells ROW 89)).setCells w.heap.size (i*5) vs).frozen? x:=fun x=>rfl
 have hw1:i64.wrap ((i:Int)+1)=(i:Int)+1:=by rw[cI];omega
 have hw2:i64.wrap ((n:Int)+1)=(n:Int)+1:=by rw[cI];omega
 have hw3:i64.wrap ((n:Int)+1-(i:Int))=(n:Int)+1-(i:Int):=by rw[cI];omega
 have hb1:(0:Int)<=(i:Int)+1:=n'
 have hin:i<=n:=n'
 have htn:((i:Int)+1).toNat=i+1:=n'
 have hb3:(i:Int)<=(n:Int):=n'
 clear hkk hik hold hROW hG hRl hzl
 go_enter hq,hI
 go_wp2_with (first
  |(at_builtin;refine cA _ rfl _ _ _ _ rfl _ _ rfl rfl _ _ (hrz _) ?_)
  |(at_builtin;refine wpList_copy_runI _ rfl _ _ 30 30 rfl _ _ rfl rfl (hcpA _ hE1 hE2 _ _) ?_)
  |(at_builtin;refine wpList_copy_runI _ rfl _ _ 30 30 rfl _ _ rfl rfl (hcpB _ (fun _=>rfl) (fun _=>rfl) _ _ _) ?_))
 go_region_law_o (refine hM rfl _ _ 30 30 rfl (.slice (b8 ⟨w.heap.size,(i+1)*5,bI⟩) (n-i) (G-(i+1))) (.slice (b8 ⟨b,i*5,bI⟩) (n-i) (c-i)) (by simp[ha,hE]) (by simp[ha,hE]) (hcpB _ hF1 hF2 3 (G-(i+1)) (c-i)) ?_)
 go_wp2
 go_ret
 exact⟨rfl,rfl⟩
def DV(b:Nat):∀(vs:List Value) (o:Nat) (w:ea),AD (fun x=>x=b) w (w.setCells b o vs)
 |[],_,w=>AD.refl _ _
 | v::r,o,w=>by
  rw[j3]
  have C:AD (fun x=>x=b) w (w.setCell ⟨b,o,bI⟩ v):=⟨rfl,rfl,rfl,by
   show w.heap.size<=(w.heap.modify b _).size;simp,fun x I j=>by
   show(w.heap.modify b _)[x]? = _
   rw[gk,if_neg (fun e=>j e.symm)]⟩
  exact C.trans (DV b r (o+1) (w.setCell ⟨b,o,bI⟩ v))
def DZ(b:Nat):∀(vs:List Value) (o:Nat) (w:ea) (arr:Array Value) (T:hy) (fz:Nat×Nat),w.heap[b]? = b8 (.cells arr T fz)->o+vs.length<=arr.size ->
  ∃C,(w.setCells b o vs).heap[b]? = b8 (.cells C T fz)/\C.size=arr.size/\∀j,C.getD j b'=if o<=j/\j<o+vs.length then vs.getD (j-o) b' else arr.getD j b'
 |[],o,w,arr,T,fz,h,_=>⟨arr,h,rfl,fun j=>by rw[if_neg (by rw[j0];omega)]⟩
 | v::r,o,w,arr,T,fz,h,J=>by
  have R:(w.setCell ⟨b,o,bI⟩ v).heap[b]? = b8 (.cells (arr.setIfInBounds o v) T fz):=by
   show(w.heap.modify b _)[b]? = _
   rw[gk,if_pos rfl,h];rfl
  simp only[eu]at J;obtain⟨C,a1,a2,a3⟩:=DZ b r (o+1) (w.setCell ⟨b,o,bI⟩ v) _ T fz R t';refine⟨C,a1,by rw[a2];simp,fun j=>?_⟩;rw[a3]
  by_cases c:o=j
  .subst c;rw[if_neg n',if_pos p'];have I:o<arr.size:=n'
   simp[agD,e4,I]
  .by_cases c2:o+1<=j/\j<o+1+r.length
   .rw[if_pos c2,if_pos (by simp only[eu];omega),show j-o=(j-(o+1))+1 by omega,iN]
   .rw[if_neg c2,if_neg (by simp only[eu];omega)];simp[agD,e4,c]
variable{S:Nat->Prop}{w:ea}{els:List AV}
def UL{b cap:Nat}(h:Hy S w b cap 5 els)(hp:0<cap):∃arr T,w.heap[b]? = b8 (.cells arr T (0,0))/\arr.size=cap*5 /\
  ∃ cs:List Value,cs.length=els.length*5/\(∀j,j<els.length*5->cs.getD j b'=arr.getD j b')/\(∀j v,cs[j]? = b8 v->w.cell? ⟨b,j,bI⟩=b8 v)/\(∀v∈cs,v.oneCell'=h4) /\
   ∀i j,i<els.length->j<5->VR S w (cs.getD (i*5+j) b') ((els.getD i .any).cells.getD j .any):=by
 obtain⟨arr,T,fz,hr,R,hs,hv⟩:=h.row hp
 have R:fz=(0,0):=by
  rcases R with e|⟨e,_⟩
  .exact e
  .exact absurd e x'
 subst R;have hlen:=h.len;have hle:els.length*5<=arr.size:=by rw[hs];omega
 have I:∀j,j<els.length*5->(arr.toList.take (els.length*5)).getD j b'=arr.getD j undef:=fun j C=>by
  rw[gdE,cd,if_pos C,agD,gf]
 have J:∀i j,i<els.length->j<5->VR S w ((arr.toList.take (els.length*5)).getD (i*5+j) b') ((els.getD i .any).cells.getD j .any):=fun i j hi C=>by
  rw[I _ n'];exact hv i j hi C
 have U:arr.toList.length=arr.size:=p'
 refine⟨arr,T,hr,hs,arr.toList.take (els.length*5),by rw[bS,U];omega,I,fun j v C=>?_,fun v hm=>?_,J⟩
 .rw[cd]at C;split at C
  .simp only[hP,hr];rw[gf]at C;rw[C];rfl
  .cases C
 .obtain⟨j,C,rfl⟩:=iI hm;have aj:j<els.length*5:=by rw[bS]at C;omega
  have h1:j/5<els.length:=n'
  have h2:j%5<5:=n'
  have:=J (j/5) (j%5) h1 h2;rw[show j/5*5+j%5=j by omega]at this;rw[gdE,geE C]at this;refine VR.oneCell this ?_;obtain⟨c1,c2⟩:=h.cells _ h1;generalize els.getD (j/5) .any=a at c1 c2 ⊢;unfold AV.atoms at c2;rw[iZ]at c2;refine c2 _ ?_;have h3:j%5<a.cells.length:=by rw[c1];exact h2
  rw[gdE,geE h3];exact iS _
def put(els:List AV)(i:Nat)(x:AV):List AV:=els.take i++x::els.drop i
def Ny(els:List AV)(i:Nat)(x:AV):(put els i x).length=els.length+1:=by unfold put;simp;omega
variable{i:Nat}
def VV(hi:i<=els.length)(x:AV)(j:Nat):(put els i x).getD j .any=if j<i then els.getD j .any else if j=i then x else els.getD (j-1) .any:=by
 unfold put;have C:(els.take i).length=i:=by rw[bS];omega
 rw[gdE]
 by_cases c:j<i
 .rw[if_pos c,eL n',cd,if_pos c,gdE]
 .rw[if_neg c,ed n',C]
  by_cases c2:j=i
  .subst c2;simp
  .rw[if_neg c2,show j-i=(j-1-i)+1 by omega,hZ,dT,show i+(j-1-i)=j-1 by omega,gdE]
def UN(cs vs:List Value)(i j:Nat):Value:=if j<i*5 then cs.getD j b' else if j<(i+1)*5 then vs.getD (j-i*5) b' else cs.getD (j-5) b'
def aD{S':Nat->Prop}{w':ea}{rb J:Nat}{x:AV}{cs vs:List Value}{I:Array Value}{T:hy}(hi:i<=els.length)
  (hx:x.cells.length=5/\x.atoms=h4) (he:∀i,i<els.length->(els.getD i .any).cells.length=5/\(els.getD i .any).atoms=h4)
  (R:∀i j,i<els.length->j<5->VR S w (cs.getD (i*5+j) b') ((els.getD i .any).cells.getD j .any)) (aa:∀j,j<5->VR S w (vs.getD j b') (x.cells.getD j .any))
  (C:AD S w w') (hS:∀b,b<w.heap.size->S' b->S b) (hh:w'.heap[rb]? = b8 (.cells I T (0,0))) (hs:I.size=J*5) (U:els.length+1<=J)
  (hc:∀j,j<(els.length+1)*5->I.getD j b'=UN cs vs i j):Hy S' w' rb J 5 (put els i x):=by
 refine⟨x',by rw[Ny];exact U,fun k hk=>?_,fun _=>⟨I,T,(0,0),hh,.inl rfl,hs,fun k j hk hj=>?_⟩⟩
 .rw[Ny]at hk;rw[VV hi];split
  .exact he k n'
  .split
   .exact hx
   .exact he (k-1) n'
 .rw[Ny]at hk;rw[hc _ n',VV hi];unfold UN
  by_cases c1:k<i
  .rw[if_pos n',if_pos c1];exact(R k j n' hj).mono C hS
  .rw[if_neg n',if_neg c1]
   by_cases c2:k=i
   .subst c2;rw[if_pos n',if_pos rfl,show k*5+j-k*5=j by omega];exact(aa j hj).mono C hS
   .rw[if_neg n',if_neg c2,show k*5+j-5=(k-1)*5+j by omega];exact(R (k-1) j n' hj).mono C hS
def QN(cs:List Value)(a j:Nat):(cs.drop a).getD j b'=cs.getD (a+j) b':=by
 rw[gdE,dT,gdE]
def Ro{vargs:Array Value}(h:vargs.size=3):vargs = #[vargs.getD 0 b',vargs.getD 1 b',vargs.getD 2 b']:=by
 obtain⟨l⟩:=vargs
 match l,h with
 |[a,b,c],_=>rfl
set_option maxRecDepth 100000 in
def sound:Cd a' 208 (JG 5 56):=by
 refine⟨fun e=>h9 e,fun F g0 w args vargs gn e7 ad e9=>⟨fun e=>h9 e,?_⟩⟩;obtain⟨els,i,x,⟨hh,hf⟩,cf,rfl,e⟩:=jF e9;obtain⟨k,rfl⟩:∃k:Nat,i=k:=⟨i.toNat,n'⟩;have he:=hW (P:=a') hq o' rfl;have h0:=Hw ad (i:=0) p';have h1:=Hw ad (i:=1) p';have h2:=Hw ad (i:=2) p';have bo:AK (AF 0) (BN 0 [bR 5 els,.int .i64 (k:Int),.fresh 5 [x]])=b8 ⟨5,els⟩:=by rw[IX];rfl
 have bh:AK (AF 2) (BN 0 [bR 5 els,.int .i64 (k:Int),.fresh 5 [x]])=b8 ⟨5,[x]⟩:=by rw[IX];rfl
 have R:Hy (AR F g0 (BN 0 [bR 5 els,.int .i64 (k:Int),.fresh 5 [x]])) w (g0.β (AF 0)) (g0.cap (AF 0)) 5 els:=ad.home (AF 0) _ bo;have ao:Hy (AR F g0 (BN 0 [bR 5 els,.int .i64 (k:Int),.fresh 5 [x]])) w (g0.β (AF 2)) (g0.cap (AF 2)) 5 [x]:=ad.home (AF 2) _ bh;have dc:0<g0.cap (AF 0)->Mo g0 (BN 0 [bR 5 els,.int .i64 (k:Int),.fresh 5 [x]]) (AF 0):=fun h=>⟨⟨_,bo⟩,h⟩
 have eg:0<g0.cap (AF 2):=by
  have:=ao.len;simp only[ir]at this;omega
 have fm:Mo g0 (BN 0 [bR 5 els,.int .i64 (k:Int),.fresh 5 [x]]) (AF 2):=⟨⟨_,bh⟩,eg⟩;have e5:vargs.size=3:=e7;rw[Ro e5];generalize vargs.getD 0 b'=v0 at h0;generalize vargs.getD 1 b'=v1 at h1;generalize vargs.getD 2 b'=v2 at h2;obtain⟨gv,en,ab⟩:=h0;rw[bo]at en;cases en;have ab:v0 = .slice (b8 ⟨g0.β (AF 0),0,bI⟩) els.length (g0.cap (AF 0))\/(g0.cap (AF 0)=0/\v0 = .slice bI 0 0):=ab;obtain⟨gu,ek,c6⟩:=h2;rw[bh]at ek;cases ek;have h1:VR _ w v1 (.int .i64 (k:Int)):=h1;cases h1
 have hv2:v2 = .slice (b8 ⟨g0.β (AF 2),0,bI⟩) 1 (g0.cap (AF 2)):=by
  rcases c6 with e|⟨e,_⟩
  .exact e
  .omega
 subst hv2;have hk:k<=els.length:=n'
 have cc:els.length+1<=9223372036854775807:=n'
 obtain⟨e3,T2,ef,gr,vs,vl,fx,cw,b5,ct⟩:=UL ao eg;have vl:vs.length=5:=by simpa using vl
 have ct:∀j,j<5->VR _ w (vs.getD j b') (x.cells.getD j .any):=fun j hj=>by
  have:=ct 0 j p' hj;rw[jn,cB]at this;exact this
 have hx:x.cells.length=5/\x.atoms=true:=ao.cells 0 p';have b6:∀j v,vs[j]? = b8 v->w.cell? ⟨g0.β (AF 2),0+j,bI⟩=b8 v:=fun j v h=>by rw[cB];exact cw j v h
 have fa:0<g0.cap (AF 0)->g0.β (AF 2)≠g0.β (AF 0):=fun h e=>by
  have:=Vb (ad.inj _ _ fm (dc h) e);omega
 have fin:∀(cs:List Value) (rb ae:Nat) (w':ea) (I:Array Value) (T:hy),(∀i j,i<els.length->j<5->VR (AR F g0 (BN 0 [bR 5 els,.int .i64 (k:Int),.fresh 5 [x]])) w (cs.getD (i*5+j) b') ((els.getD i .any).cells.getD j .any)) ->
   w'.heap[rb]? = b8 (.cells I T (0,0))->I.size=ae*5->els.length+1<=ae->(∀j,j<(els.length+1)*5->I.getD j b'=UN cs vs k j) ->
   AD (fun b=>∃k',Mo g0 (BN 0 [bR 5 els,.int .i64 (k:Int),.fresh 5 [x]]) k'/\g0.β k'=b) w w'->(w.heap.size<=rb\/∃k',Mo g0 (BN 0 [bR 5 els,.int .i64 (k:Int),.fresh 5 [x]]) k'/\g0.β k'=rb)->¬ F rb ->
   ∃v g ob κ,(Ending.returned (.slice (b8 ⟨rb,0,bI⟩) (els.length+1) ae)) = .returned v/\fH F g0 [bR 5 els,.int .i64 (k:Int),.fresh 5 [x]] (JG 5 56).modes w v w' ((JG 5 56).F [bR 5 els,.int .i64 (k:Int),.fresh 5 [x]]).r ((JG 5 56).F [bR 5 els,.int .i64 (k:Int),.fresh 5 [x]]).outs g ob κ:=by
  intro cs rb ae w' I T fs df c7 eo hc ba hio fi;have hF:((JG 5 56).F [bR 5 els,.int .i64 (k:Int),.fresh 5 [x]])=⟨h4,.fresh 5 (put els k x),[.any,.any,.any]⟩:=e;rw[hF]
  have b9:∀j:Nat,(JG 5 56).modes[j]? ≠ b8 Md.io:=fun j=>by
   show([.mov,.bor,.mov]:List Md)[j]? ≠ b8 Md.io
   match j with
   |0=>intro h;cases h
   |1=>intro h;cases h
   |2=>intro h;cases h
   |j+3=>simp
  have only:∀q h,AK q [(0,(⟨5,put els k x⟩:Hm))]=b8 h->q=0/\h=⟨5,put els k x⟩:=by
   intro q h hg;simp only[AK,AM,beq_iff_eq]at hg;split at hg
   .rename_i e;cases hg;exact⟨e.symm,rfl⟩
   .cases hg
  refine⟨_,⟨fun _=>rb,fun _=>ae⟩,[(0,⟨5,put els k x⟩)],fun _=>0,rfl,⟨ba,fun q h hg=>?_,fun q q' a b _=>?_,fun q a=>fi,fun q a=>hio,?_,fun i j hi hj _=>?_,fun i j _ hj=>absurd hj (b9 j),fun j hj=>absurd hj (b9 j)⟩⟩
  .obtain⟨rfl,rfl⟩:=only q h hg;refine aD hk hx R.cells fs ct (ba.mono fun b _ hb=>.inr hb) (fun b hb e8=>?_) df c7 eo hc;rcases e8 with h|⟨_,_,h⟩
   .exact .inl h
   .have h:rb=b:=h;subst h;rcases hio with h|h
    .omega
    .exact .inr h
  .obtain⟨⟨h,hg⟩,_⟩:=a;obtain⟨⟨h',fp⟩,_⟩:=b;rw[(only q h hg).1,(only q' h' fp).1]
  .exact⟨by simp[AK],.inl (by simp only[Ny])⟩
  .rw[hi.1,hj.1]
 unfold DJ;rw[he];show hQ _ _ _ _ _;have ay:¬ F w.heap.size:=fun h=>absurd (ad.fb _ h) (j9 _)
 have dw:els.length+1<=dU w (els.length+1) (g0.cap (AF 0)) 89:=hT w _ _ _
 have atEnd:∀(base:Option Addr) (cs:List Value),v0 = .slice base els.length (g0.cap (AF 0))->k=els.length->g0.cap (AF 0)<els.length+1->(base=bI->els.length=0)->cs.length=els.length*5 ->
   (∀a,base=b8 a->∀j v,cs[j]? = b8 v->w.cell? (a.add j)=b8 v) ->
   (∀i j,i<els.length->j<5->VR (AR F g0 (BN 0 [bR 5 els,.int .i64 (k:Int),.fresh 5 [x]])) w (cs.getD (i*5+j) b') ((els.getD i .any).cells.getD j .any)) ->
   hQ a' 208 #[v0,.int .i64 (k:Int),.slice (b8 ⟨g0.β (AF 2),0,bI⟩) 1 (g0.cap (AF 2))] w fun e' w'=>∃v g ob κ,e' = .returned v/\fH F g0 [bR 5 els,.int .i64 (k:Int),.fresh 5 [x]] (JG 5 56).modes w v w' ((JG 5 56).F [bR 5 els,.int .i64 (k:Int),.fresh 5 [x]]).r ((JG 5 56).F [bR 5 els,.int .i64 (k:Int),.fresh 5 [x]]).outs g ob κ:=by
  intro base cs e6 bs J ej cl U a6;subst e6;have hlen:=R.len;have ds:(k:Int)=(els.length:Int):=n'
  have C:=kt base els.length (g0.cap (AF 0)) (g0.β (AF 2)) 0 (g0.cap (AF 2)) cs vs w hlen J cf cl vl ej U b6 b5;rw[←ds]at C;refine C.mono fun e' w' ⟨a1,a2⟩=>?_
  rw[a1];refine fin cs w.heap.size _ w' ((cs++vs).toArray++a7 (bN (.agg #[.int .i64 0,.string ⟨#[]⟩,.string ⟨#[]⟩,.int .i64 0,.bool e1])) (dU w (els.length+1) (g0.cap (AF 0)) 89-(els.length+1))) 89 a6 ?_ ?_ dw (fun j hj=>?_) ?_ (.inl (hR _)) ay
  .rw[a2];exact hJ w.drew _
  .rw[bX,MJ,cm,h8,cl,vl];omega
  .unfold UN;rw[agD,dx (by rw[cm,h8,cl,vl];omega),g']
   by_cases c:j<k*5
   .rw[if_pos c,eL n',gdE]
   .rw[if_neg c,if_pos n',ed n',gdE,cl,bs]
  .rw[a2];exact(AD.drew _ w).trans (AD.alloc _ _ _)
 rcases iR (g0.cap (AF 0))with hz|hp
 .have hlen:=R.len;have b7:els.length=0:=n'
  have et:∀i j,i<els.length->j<5->VR (AR F g0 (BN 0 [bR 5 els,.int .i64 (k:Int),.fresh 5 [x]])) w (([]:List Value).getD (i*5+j) b') ((els.getD i .any).cells.getD j .any):=fun i j hi _=>n'
  rcases ab with e0|⟨_,e0⟩
  .exact atEnd (b8 ⟨g0.β (AF 0),0,bI⟩) [] e0 n' n' (fun h=>by cases h) (by simp[b7]) (fun _ _ j v h=>by simp at h) et
  .exact atEnd bI [] (by rw[e0,b7,hz]) n' n' (fun _=>b7) (by simp[b7]) (fun _ h=>by cases h) et
 .obtain⟨aj,T0,be,c8,cs,cl,cn,U,ev,a6⟩:=UL R hp;have hlen:=R.len
  have e0:v0 = .slice (b8 ⟨g0.β (AF 0),0,bI⟩) els.length (g0.cap (AF 0)):=by
   rcases ab with e|⟨e,_⟩
   .exact e
   .omega
  have a8:∀j,j<aj.size->(w.cell? ⟨g0.β (AF 0),j,bI⟩).isSome=true:=fun j hj=>by
   simp only[hP,be];rw[ew hj];rfl
  have b4:∀j,w.frozen? ⟨g0.β (AF 0),j,bI⟩=false:=fun j=>by simp[hC,be]
  have bz:∀j,w.frozen? ⟨g0.β (AF 2),j,bI⟩=false:=fun j=>by simp[hC,ef]
  have au:∃k',Mo g0 (BN 0 [bR 5 els,.int .i64 (k:Int),.fresh 5 [x]]) k'/\g0.β k'=g0.β (AF 0):=⟨_,dc hp,rfl⟩;have cb:¬ F (g0.β (AF 0)):=ad.nF _ (dc hp)
  by_cases J:els.length+1<=g0.cap (AF 0)
  .have fy:(els.length+1)*5<=aj.size:=by rw[c8];omega
   by_cases bs:k=els.length
   .have ds:(k:Int)=(els.length:Int):=n'
    have C:=kr (g0.β (AF 0)) els.length (g0.cap (AF 0)) (g0.β (AF 2)) 0 (g0.cap (AF 2)) vs w J cc vl (fun j hj=>a8 _ n') (fun j hj=>b4 _) b6 b5;rw[←ds,←e0]at C;refine C.mono fun e' w' ⟨a1,a2⟩=>?_
    rw[a1];obtain⟨I,b1,b2,b3⟩:=DZ (g0.β (AF 0)) vs (els.length*5) w aj T0 (0,0) be n';refine fin cs (g0.β (AF 0)) _ w' I T0 a6 (by rw[a2];exact b1) (by rw[b2,c8]) J (fun j hj=>?_) ?_ (.inr au) cb
    .rw[b3];unfold UN
     by_cases c:j<k*5
     .rw[if_neg n',if_pos c,cn j n']
     .rw[if_pos n',if_neg c,if_pos n',bs]
    .rw[a2];exact(DV _ _ _ _).mono fun b _ hb=>by subst hb;exact au
   .have db:k<els.length:=n'
    have C:=shift (g0.β (AF 0)) els.length (g0.cap (AF 0)) k (g0.β (AF 2)) 0 (g0.cap (AF 2)) cs vs w db J cc (fa hp) cl vl U (fun j hj=>a8 _ n') (fun j hj=>b4 _) b6 ev b5
     T2 T0 e3.size aj.size (by simp[hL,ef]) (by simp[hL,be]) n' (bz _) (bz _)
    rw[←e0]at C;refine C.mono fun e' w' ⟨a1,a2⟩=>?_
    rw[a1];have dl:(cs.drop (k*5)).length=(els.length-k)*5:=by rw[d',cl,fI]
    obtain⟨az,b1,b2,b3⟩:=DZ (g0.β (AF 0)) (cs.drop (k*5)) ((k+1)*5) w.drew aj T0 (0,0) be (by rw[dl];omega);obtain⟨I,c1,c2,c3⟩:=DZ (g0.β (AF 0)) vs (k*5) _ az T0 (0,0) b1 n';refine fin cs (g0.β (AF 0)) _ w' I T0 a6 (by rw[a2];exact c1) (by rw[c2,b2,c8]) J (fun j hj=>?_) ?_ (.inr au) cb
    .rw[c3,b3,dl];unfold UN
     by_cases c:j<k*5
     .rw[if_neg n',if_neg n',if_pos c,cn j n']
     .rw[if_neg c]
      by_cases c':j<(k+1)*5
      .rw[if_pos n',if_pos c']
      .rw[if_neg n',if_pos n',if_neg c',QN]
       congr 1;omega
    .rw[a2];refine AD.mono (S:=fun x=>x=g0.β (AF 0)) ?_ fun b _ hb=>by subst hb;exact au
     exact((AD.drew _ w).trans (DV _ _ _ _)).trans (DV _ _ _ _)
  .by_cases bs:k=els.length
   .exact atEnd (b8 ⟨g0.β (AF 0),0,bI⟩) cs e0 bs n' (fun h=>by cases h) cl (fun a h j v hj=>by
     cases h
     rw[ca,cB];exact U j v hj) a6
   .have db:k<els.length:=n'
    have C:=grow (g0.β (AF 0)) els.length (g0.cap (AF 0)) k (g0.β (AF 2)) 0 (g0.cap (AF 2)) cs vs w db hlen n' cf cl vl U b6 ev b5;rw[←e0]at C;refine C.mono fun e' w' ⟨a1,a2⟩=>?_
    rw[a1];have dl:(cs.drop (k*5)).length=(els.length-k)*5:=by rw[d',cl,fI]
    generalize hG:dU w (els.length+1) (g0.cap (AF 0)) 89=G at dw a2 ⊢
    have ax:((cs.take (k*5)).toArray++a7 (bN (.agg #[.int .i64 0,.string ⟨#[]⟩,.string ⟨#[]⟩,.int .i64 0,.bool e1])) (els.length+1-k)++a7 (bN (.agg #[.int .i64 0,.string ⟨#[]⟩,.string ⟨#[]⟩,.int .i64 0,.bool e1])) (G-(els.length+1))).size=G*5:=by
     rw[bX,bX,MJ,MJ,cm,bS,cl];omega
    have bb:∀j,j<k*5->((cs.take (k*5)).toArray++a7 (bN (.agg #[.int .i64 0,.string ⟨#[]⟩,.string ⟨#[]⟩,.int .i64 0,.bool e1])) (els.length+1-k)++a7 (bN (.agg #[.int .i64 0,.string ⟨#[]⟩,.string ⟨#[]⟩,.int .i64 0,.bool e1])) (G-(els.length+1))).getD j b'=cs.getD j undef:=fun j hj=>by
     have h1:j<(cs.take (k*5)).toArray.size:=by rw[cm,bS,cl];omega
     rw[agD,dx (by rw[bX];omega),dx h1,g',cd,if_pos hj,gdE]
    generalize((cs.take (k*5)).toArray++a7 (bN (.agg #[.int .i64 0,.string ⟨#[]⟩,.string ⟨#[]⟩,.int .i64 0,.bool e1])) (els.length+1-k)++a7 (bN (.agg #[.int .i64 0,.string ⟨#[]⟩,.string ⟨#[]⟩,.int .i64 0,.bool e1])) (G-(els.length+1)))=ROW at a2 ax bb;have b0:((w.alloc (.cells ROW 89)).drew).heap[w.heap.size]? = b8 (.cells ROW 89 (0,0)):=hJ w _;obtain⟨az,b1,b2,b3⟩:=DZ w.heap.size vs (k*5) _ ROW 89 (0,0) b0 (by rw[ax];omega);have fu:(((w.alloc (.cells ROW 89)).drew.setCells w.heap.size (k*5) vs).drew).heap[w.heap.size]? = b8 (.cells az 89 (0,0)):=b1;obtain⟨I,c1,c2,c3⟩:=DZ w.heap.size (cs.drop (k*5)) ((k+1)*5) _ az 89 (0,0) fu (by rw[dl,b2,ax];omega);refine fin cs w.heap.size _ w' I 89 a6 (by rw[a2];exact c1) (by rw[c2,b2,ax]) dw (fun j hj=>?_) ?_ (.inl (hR _)) ay
    .rw[c3,b3,dl];unfold UN
     by_cases c:j<k*5
     .rw[if_neg n',if_neg n',if_pos c,bb j c]
     .rw[if_neg c]
      by_cases c':j<(k+1)*5
      .rw[if_neg n',if_pos n',if_pos c']
      .rw[if_pos n',if_neg c',QN]
       congr 1;omega
    .rw[a2];refine AD.mono (S:=fun x=>x=w.heap.size) ?_ fun b hb hn=>n'
     exact((((AD.alloc _ w _).trans (AD.drew _ _)).trans (DV _ _ _ _)).trans (AD.drew _ _)).trans (DV _ _ _ _)
end Go.Proofs.YtegmpdmpgmpiaaaGreatDoor.insEstimate
namespace Go.Proofs.YtegmpdmpgmpiaaaGreatDoor
open Go Go.RowKit
def Hv:Ao:=JG 5 56
theorem dd:Hv.modes=[.mov,.bor,.mov]:=rfl
theorem Yx:Hv.flat=false:=rfl
attribute [go_sem] dd Yx
def Yu{α:Type}(f:α->AV){l:List α}{i:Int}{v j:List α}(h:kZ 56 l i v=b8 j):Hv.F [.fresh 5 (hO f l),.int .i64 i,.fresh 5 (hO f v)]=⟨h4,.fresh 5 (hO f j),[.any,.any,.any]⟩:=pw 5 f h
def Yl:Cd a' 208 Hv:=insEstimate.sound
end Go.Proofs.YtegmpdmpgmpiaaaGreatDoor
namespace Go.Proofs.YtegmpdmpgmpiaaaGreatDoor.insStar
open Go Go.RowKit Go.Lib Go.Proofs.YtegmpdmpgmpiaaaGreatDoor
def uS:a'.underlying 29=b8 (.slice 86):=o'
def iE:(a'.info? 86).map (fun i=>(i.zero,i.size,i.bytes))=b8 (b8 (.agg #[.string ⟨#[]⟩,.int .i64 0,.int .i64 0,.int .i64 0,.int .i64 0]),5,48):=o'
def mixed:a'.follows Departure.mixedOrders=h4:=o'
def MJ(k:Nat):(a7 (bN (.agg #[.string ⟨#[]⟩,.int .i64 0,.int .i64 0,.int .i64 0,.int .i64 0])) k).size=k*5:=by
 simp[a7,bN]
def LC(w:ea)(ty:hy)(b o J U:Nat)(a:Addr)(C I m:Nat)(cs:List Value)
  (hm:m=Nat.min C J) (hl:cs.length=m*5)
  (R:∀j v,cs[j]? = b8 v->w.cell? (a.add j)=b8 v) (hc:∀j,j<cs.length->(w.cell? ⟨b,o+j,bI⟩).isSome=h4) (hf:∀j,j<cs.length->w.frozen? ⟨b,o+j,bI⟩=e1) (h1:∀v∈cs,v.oneCell'=h4) :
  (cS #[29,29] ty #[.slice (b8 ⟨b,o,bI⟩) J U,.slice (b8 a) C I]).run a' w = .ok (hV m) (w.setCells b o cs):=by
 have ab:=j1 (P:=a') b o cs 0 w (by simpa using hc) (by simpa using hf) h1;obtain⟨i0,ae,ao,aa,aj⟩:=h6 iE;have ad:=e2 (P:=a') w 5 m a C I cs hl R;simp[cS,run_underlying uS,i',sizeOf,typeInfo,ae,aa,←hm,ad,ab]
def ABG(w:ea)(C j vc b o lb cb:Nat)(R:C≠b)(tA tB:hy)(J I:Nat)(aa:w.shape? C=b8 (tA,J))(U:w.shape? b=b8 (tB,I))(ab:I≠0)
  (ae:w.frozen? ⟨C,j,bI⟩=e1) (ad:w.frozen? ⟨C,J,bI⟩=e1) :
  (j2 272 #[.slice (b8 ⟨C,j,bI⟩) 1 vc,.slice (b8 ⟨b,o,bI⟩) lb cb]).run a' w = .ok (.value (.bool e1)) w:=by
 rw[j5 Tryz.func272 o' o' o' (e:=Extern.SlicesOverlaps.overlaps #[29,29] #[4]) o',
  iB w 29 4 86 uS 5 Tryz.sizeOf86 ⟨C,j,bI⟩ ⟨b,o,bI⟩ 1 vc lb cb R tA tB J I aa U ab ae ad]
 rfl
set_option maxRecDepth 100000 in
def shift(b n c i vb voff vc:Nat)(cs vs:List Value)(w:ea)(hi:i<n)(hroom:n+1<=c)(hn63:n+1<=9223372036854775807)(hvb:vb≠b)
  (hcl:cs.length=n*5) (hvl:vs.length=5)
  (hcs:∀j v,cs[j]? = b8 v->w.cell? ⟨b,j,bI⟩=b8 v) (hsp:∀j,j<(n+1)*5->(w.cell? ⟨b,j,bI⟩).isSome=h4) (hfz:∀j,j<(n+1)*5->w.frozen? ⟨b,j,bI⟩=e1)
  (hvs:∀j v,vs[j]? = b8 v->w.cell? ⟨vb,voff+j,bI⟩=b8 v) (h1c:∀v∈cs,v.oneCell'=h4) (h1v:∀v∈vs,v.oneCell'=h4)
  (tA tB:hy) (kA kB:Nat) (hsa:w.shape? vb=b8 (tA,kA)) (hsb:w.shape? b=b8 (tB,kB)) (hkB:kB≠0) (hfa:w.frozen? ⟨vb,voff,bI⟩=e1) (hfe:w.frozen? ⟨vb,kA,bI⟩=e1) :
  hQ a' 247 #[.slice (b8 ⟨b,0,bI⟩) n c,.int .i64 i,.slice (b8 ⟨vb,voff,bI⟩) 1 vc] w fun e w'=>
   e = .returned (.slice (b8 ⟨b,0,bI⟩) (n+1) c)/\w'=(w.drew.setCells b ((i+1)*5) (cs.drop (i*5))).setCells b (i*5) vs:=by
 have mixed:=mixed;have hz2:¬ ((i:Int)=(n:Int)):=n'
 have hov:∀lb cb,(j2 272 #[.slice (b8 ⟨vb,voff,bI⟩) 1 vc,.slice (b8 ⟨b,(i+1)*5,bI⟩) lb cb]).run a' w = .ok (.value (.bool e1)) w:=fun lb cb=>ABG w vb voff vc b ((i+1)*5) lb cb hvb tA tB kA kB hsa hsb hkB hfa hfe
 have hdl:(cs.drop (i*5)).length=(n-i)*5:=by rw[d',hcl,fI]
 have hw1:i64.wrap ((i:Int)+1)=(i:Int)+1:=by rw[cI];omega
 have hw2:i64.wrap ((n:Int)+1)=(n:Int)+1:=by rw[cI];omega
 have hb1:(0:Int)<=(i:Int)+1:=n'
 have hin:i<=n:=n'
 have htn:((i:Int)+1).toNat=i+1:=n'
 have hb2:¬ (c=i+1):=n'
 have hb3:(i:Int)<=(n:Int)+1:=n'
 have hb4:¬ (c=i):=n'
 have hb5:¬ ((c:Int)<(n:Int)+1):=n'
 have hcp1:∀ty dc sc,(cS #[29,29] ty #[.slice (b8 ⟨b,(i+1)*5,bI⟩) (n-i) dc,.slice (b8 ⟨b,i*5,bI⟩) (n+1-i) sc]).run a' w.drew = .ok (hV ((n-i:Nat):Int)) (w.drew.setCells b ((i+1)*5) (cs.drop (i*5))):=fun ty dc sc=>
  LC w.drew ty b ((i+1)*5) (n-i) dc ⟨b,i*5,bI⟩ (n+1-i) sc (n-i) (cs.drop (i*5)) (by simp only[f'];split<;>omega) hdl
   (fun j v hj=>by rw[ca];exact hcs (i*5+j) v (by rwa [dT]at hj))
   (fun j hj=>hsp _ (by rw[hdl]at hj;omega)) (fun j hj=>hfz _ (by rw[hdl]at hj;omega)) (fun v hv=>h1c v (h5 hv))
 obtain⟨W1,hW1⟩:∃W1,W1=w.drew.setCells b ((i+1)*5) (cs.drop (i*5)):=⟨_,rfl⟩
 have hsp1:∀k,k<(n+1)*5->(W1.cell? ⟨b,k,bI⟩).isSome=true:=fun k hk=>by
  rw[hW1];exact hD b (cs.drop (i*5)) ((i+1)*5) w.drew (fun j hj=>hsp ((i+1)*5+j) (by rw[hdl]at hj;omega)) k (hsp k hk)
 have hcp2:∀(W:ea),(∀x,W.cell? x=W1.cell? x)->(∀x,W.frozen? x=W1.frozen? x)->∀ty dc,(cS #[29,29] ty #[.slice (b8 ⟨b,i*5,bI⟩) (n+1-i) dc,.slice (b8 ⟨vb,voff,bI⟩) 1 vc]).run a' W = .ok (hV 1) (W.setCells b (i*5) vs):=fun W hWc hWf ty dc=>
  LC W ty b (i*5) (n+1-i) dc ⟨vb,voff,bI⟩ 1 vc 1 vs (by simp only[f'];split<;>omega) (by rw[hvl])
   (fun j v hj=>by
    rw[ca,hWc,hW1,fB b _ _ _ _ (fun h _=>absurd h hvb)];exact hvs j v hj)
   (fun j hj=>by rw[hWc];exact hsp1 _ n') (fun j hj=>by rw[hWf,hW1,ga];exact hfz _ n') h1v
 rw[←hW1]at hcp1
 go_enter ho,hH
 go_wp2_with (simp only[hov])
 go_region_law_o (refine hM rfl _ _ 29 29 rfl _ _ (by simp[ha,hE]) (by simp[ha,hE]) (hcp1 _ _ _) ?_)
 go_wp2_with (at_builtin;refine wpList_copy_runI _ rfl _ _ 29 29 rfl _ _ rfl rfl (hcp2 _ (fun _=>rfl) (fun _=>rfl) _ _) ?_)
 go_ret
 first|exact⟨rfl,rfl⟩|exact⟨rfl,by rw[hW1]⟩
set_option maxRecDepth 100000 in
def kr(b n c vb voff vc:Nat)(vs:List Value)(w:ea)(hroom:n+1<=c)(hn63:n+1<=9223372036854775807)(hvl:vs.length=5)
  (hsp:∀j,j<5->(w.cell? ⟨b,n*5+j,bI⟩).isSome=h4) (hfz:∀j,j<5->w.frozen? ⟨b,n*5+j,bI⟩=e1)
  (hvs:∀j v,vs[j]? = b8 v->w.cell? ⟨vb,voff+j,bI⟩=b8 v) (h1v:∀v∈vs,v.oneCell'=h4) :
  hQ a' 247 #[.slice (b8 ⟨b,0,bI⟩) n c,.int .i64 n,.slice (b8 ⟨vb,voff,bI⟩) 1 vc] w fun e w'=>
   e = .returned (.slice (b8 ⟨b,0,bI⟩) (n+1) c)/\w'=w.setCells b (n*5) vs:=by
 obtain⟨i0,hi0,hz0,hzs,hzb⟩:=h6 iE
 have hsrc:jm a' i0.size 29 (.slice (b8 ⟨vb,voff,bI⟩) 1 vc) 1 vs w:=by
  rw[hzs];exact hA w uS ⟨vb,voff,bI⟩ 1 vc vs n' (fun j u hj=>by rw[ca];exact hvs j u hj) h1v
 have hrun:∀ty,(fA #[29,29] ty #[.slice (b8 ⟨b,0,bI⟩) n c,.slice (b8 ⟨vb,voff,bI⟩) 1 vc]).run a' w = .ok (.slice (b8 ⟨b,0,bI⟩) (n+1) c) (w.setCells b (n*5) vs):=fun ty=>by
  have h:=j6 w 29 29 ty 86 i0 uS hi0 b 0 n c (.slice (b8 ⟨vb,voff,bI⟩) 1 vc) 1 vs hsrc hroom (fun j hj=>by rw[hzs,cB];exact hsp j n') (fun j hj=>by rw[hzs,cB];exact hfz j n');rw[hzs,cB]at h;exact h
 have hn63:¬ ((n:Int)<0):=n'
 go_enter ho,hH
 go_wp2_with (at_builtin;refine cA _ rfl _ _ _ _ rfl _ _ rfl rfl _ _ (hrun _) ?_)
 go_ret
 exact⟨rfl,rfl⟩
set_option maxRecDepth 100000 in
def kt(base:Option Addr)(n c vb voff vc:Nat)(cs vs:List Value)(w:ea)(hnc:n<=c)(hroom:c<n+1)(hbig:(n+1)*48<=140737488355328)
  (hcl:cs.length=n*5) (hvl:vs.length=5) (hnil:base=bI->n=0)
  (hcs:∀a,base=b8 a->∀j v,cs[j]? = b8 v->w.cell? (a.add j)=b8 v)
  (hvs:∀j v,vs[j]? = b8 v->w.cell? ⟨vb,voff+j,bI⟩=b8 v) (h1v:∀v∈vs,v.oneCell'=h4) :
  hQ a' 247 #[.slice base n c,.int .i64 n,.slice (b8 ⟨vb,voff,bI⟩) 1 vc] w fun e w'=>
   e = .returned (.slice (b8 ⟨w.heap.size,0,bI⟩) (n+1) (dU w (n+1) c 86)) /\
   w'=w.drew.alloc (.cells ((cs++vs).toArray++a7 (bN (.agg #[.string ⟨#[]⟩,.int .i64 0,.int .i64 0,.int .i64 0,.int .i64 0])) (dU w (n+1) c 86-(n+1))) 86):=by
 obtain⟨i0,hi0,hz0,hzs,hzb⟩:=h6 iE
 have hsrc:jm a' i0.size 29 (.slice (b8 ⟨vb,voff,bI⟩) 1 vc) 1 vs w:=by
  rw[hzs];exact hA w uS ⟨vb,voff,bI⟩ 1 vc vs n' (fun j u hj=>by rw[ca];exact hvs j u hj) h1v
 have hold:(h7 i0.size n (.slice base n c)).run a' w.drew = .ok cs.toArray w.drew:=by
  rw[hzs];cases base with
  | none=>
   have h0:=hnil rfl;subst h0;rw[hY.1 (show cs.length=0 by omega)];exact j4 w.drew 5 0 0 c
  |some a=>exact e2 w.drew 5 n a n c cs hcl (fun j v hj=>hcs a rfl j v hj)
 have hrun:∀ty,(fA #[29,29] ty #[.slice base n c,.slice (b8 ⟨vb,voff,bI⟩) 1 vc]).run a' w=_:=fun ty=>
  j7 w 29 29 ty 86 i0 _ uS hi0 hz0 base n c cs hold _ 1 vs hsrc hroom n' (by rw[hzb];exact hK hroom hbig)
 go_enter ho,hH
 cases base with
 | none=>
  have h0:=hnil rfl;subst h0
  go_wp2_with (at_builtin;refine cA _ rfl _ _ _ _ rfl _ _ rfl rfl _ _ (hrun _) ?_)
  go_ret
  exact⟨rfl,rfl⟩
 | some a=>
  obtain⟨ab,ao,asp⟩:=a
  go_wp2_with (at_builtin;refine cA _ rfl _ _ _ _ rfl _ _ rfl rfl _ _ (hrun _) ?_)
  all_goals(go_ret;exact⟨rfl,rfl⟩)
set_option maxRecDepth 100000 in
def grow(b n c i vb voff vc:Nat)(cs vs:List Value)(w:ea)(hi:i<n)(hnc:n<=c)(hroom:c<n+1)(hbig:(n+1)*48<=140737488355328)
  (hcl:cs.length=n*5) (hvl:vs.length=5)
  (hcs:∀j v,cs[j]? = b8 v->w.cell? ⟨b,j,bI⟩=b8 v)
  (hvs:∀j v,vs[j]? = b8 v->w.cell? ⟨vb,voff+j,bI⟩=b8 v) (h1c:∀v∈cs,v.oneCell'=h4) (h1v:∀v∈vs,v.oneCell'=h4) :
  hQ a' 247 #[.slice (b8 ⟨b,0,bI⟩) n c,.int .i64 i,.slice (b8 ⟨vb,voff,bI⟩) 1 vc] w fun e w'=>
   e = .returned (.slice (b8 ⟨w.heap.size,0,bI⟩) (n+1) (dU w (n+1) c 86)) /\
   w'=(((w.alloc (.cells ((cs.take (i*5)).toArray++a7 (bN (.agg #[.string ⟨#[]⟩,.int .i64 0,.int .i64 0,.int .i64 0,.int .i64 0])) (n+1-i)++a7 (bN (.agg #[.string ⟨#[]⟩,.int .i64 0,.int .i64 0,.int .i64 0,.int .i64 0])) (dU w (n+1) c 86-(n+1))) 86)).drew.setCells w.heap.size (i*5) vs).drew).setCells w.heap.size ((i+1)*5) (cs.drop (i*5)):=by
 have mixed:=mixed;obtain⟨i0,hi0,hz0,hzs,hzb⟩:=h6 iE;have hz2:¬ ((i:Int)=(n:Int)):=n'
 have hz3:(c:Int)<(n:Int)+1:=n'
 have hbw:b<w.heap.size:=hB (hcs 0 _ (geE n'));have hvw:vb<w.heap.size:=hB (hvs 0 _ (geE n'));have hkk:(n:Int)+1-(i:Int)=((n+1-i:Nat):Int):=n'
 have hik:i+(n+1-i)=n+1:=n'
 have hold:(h7 i0.size i (.slice (b8 ⟨b,0,bI⟩) i c)).run a' w.drew = .ok (cs.take (i*5)).toArray w.drew:=by
  rw[hzs]
  exact e2 w.drew 5 i ⟨b,0,bI⟩ i c (cs.take (i*5)) (by rw[bS];omega) (fun j v hj=>by
   rw[ca,cB];rw[cd]at hj;split at hj
   .exact hcs j v hj
   .cases hj)
 have hrz:∀ty,(fA #[29,3] ty #[.slice (b8 ⟨b,0,bI⟩) i c,.int .i64 ((n:Int)+1-(i:Int))]).run a' w =
   .ok (.slice (b8 ⟨w.heap.size,0,bI⟩) (n+1) (dU w (n+1) c 86)) (w.drew.alloc (.cells ((cs.take (i*5)).toArray++a7 (bN (.agg #[.string ⟨#[]⟩,.int .i64 0,.int .i64 0,.int .i64 0,.int .i64 0])) (n+1-i)++a7 (bN (.agg #[.string ⟨#[]⟩,.int .i64 0,.int .i64 0,.int .i64 0,.int .i64 0])) (dU w (n+1) c 86-(n+1))) 86)):=fun ty=>by
  have h:=hX w 29 3 ty 86 i0 _ .i64 .i64 uS o' hi0 hz0 (b8 ⟨b,0,bI⟩) i c (cs.take (i*5)) hold (n+1-i) n' n' n' n' (by rw[hzb];omega) (by rw[hzb,hik];exact hK hroom hbig);rw[hik]at h;rw[hkk];exact h
 obtain⟨G,hG⟩:∃G,G=dU w (n+1) c 86:=⟨_,rfl⟩;obtain⟨ROW,hROW⟩:∃ROW:Array Value,ROW=(cs.take (i*5)).toArray++a7 (bN (.agg #[.string ⟨#[]⟩,.int .i64 0,.int .i64 0,.int .i64 0,.int .i64 0])) (n+1-i)++a7 (bN (.agg #[.string ⟨#[]⟩,.int .i64 0,.int .i64 0,.int .i64 0,.int .i64 0])) (G-(n+1)):=⟨_,rfl⟩;rw[←hG]at hrz ⊢;rw[←hROW]at hrz ⊢;have hzl:∀k,(a7 (bN (.agg #[.string ⟨#[]⟩,.int .i64 0,.int .i64 0,.int .i64 0,.int .i64 0])) k).size=k*5:=MJ
 have hRl:(n+1)*5<=ROW.size:=by
  rw[hROW,bX,bX,hzl,hzl,cm,bS];omega
 obtain⟨W1,hW1⟩:∃W1,W1=w.drew.alloc (.cells ROW 86):=⟨_,rfl⟩;rw[←hW1]at hrz
 have hN:∀j,j<(n+1)*5->(W1.cell? ⟨w.heap.size,j,bI⟩).isSome=true:=fun j hj=>by
  rw[hW1,ix (w:=w.drew) ROW _ w.heap.size j rfl,ew n'];rfl
 have hNf:∀j,W1.frozen? ⟨w.heap.size,j,bI⟩=false:=fun j=>by rw[hW1];exact ih (w:=w.drew) ROW _ w.heap.size j rfl
 have hOb:∀j v,w.cell? ⟨b,j,bI⟩=b8 v->W1.cell? ⟨b,j,bI⟩=b8 v:=fun j v h=>by rw[hW1,gb (w:=w.drew) _ b j hbw];exact h
 have hOv:∀j v,w.cell? ⟨vb,j,bI⟩=b8 v->W1.cell? ⟨vb,j,bI⟩=b8 v:=fun j v h=>by rw[hW1,gb (w:=w.drew) _ vb j hvw];exact h
 have hcpA:∀(W:ea),(∀x,W.cell? x=W1.cell? x)->(∀x,W.frozen? x=W1.frozen? x)->∀ty dc,(cS #[29,29] ty #[.slice (b8 ⟨w.heap.size,i*5,bI⟩) (n+1-i) dc,.slice (b8 ⟨vb,voff,bI⟩) 1 vc]).run a' W = .ok (hV 1) (W.setCells w.heap.size (i*5) vs):=fun W hWc hWf ty dc=>
  LC W ty w.heap.size (i*5) (n+1-i) dc ⟨vb,voff,bI⟩ 1 vc 1 vs (by simp only[f'];split<;>omega) (by rw[hvl])
   (fun j v hj=>by rw[ca,hWc];exact hOv _ v (hvs j v hj))
   (fun j hj=>by rw[hWc];exact hN _ n') (fun j hj=>by rw[hWf];exact hNf _) h1v
 have hGn:n+1<=G:=by rw[hG];exact hT w _ _ _
 have hG63:G<=9223372036854775807:=by
  have:=j8 w (n+1) c 86 (by unfold maxLen;omega);rw[←hG]at this;unfold maxLen at this;omega
 have hGi:¬ (G=i):=n'
 have hGim:¬ (G=i+1):=n'
 have hci:¬ (c=i):=n'
 have hbN:b≠w.heap.size:=n'
 have hdl:(cs.drop (i*5)).length=(n-i)*5:=by rw[d',hcl,fI]
 have hcpB:∀(W:ea),(∀x,W.cell? x=(W1.setCells w.heap.size (i*5) vs).cell? x)->(∀x,W.frozen? x=(W1.setCells w.heap.size (i*5) vs).frozen? x)->∀ty dc sc,(cS #[29,29] ty #[.slice (b8 ⟨w.heap.size,(i+1)*5,bI⟩) (n-i) dc,.slice (b8 ⟨b,i*5,bI⟩) (n-i) sc]).run a' W = .ok (hV ((n-i:Nat):Int)) (W.setCells w.heap.size ((i+1)*5) (cs.drop (i*5))):=fun W hWc hWf ty dc sc=>
  LC W ty w.heap.size ((i+1)*5) (n-i) dc ⟨b,i*5,bI⟩ (n-i) sc (n-i) (cs.drop (i*5)) (by simp only[f'];split<;>omega) hdl
   (fun j v hj=>by
    rw[ca,hWc,fB _ _ _ _ _ (fun h _=>absurd h hbN)];exact hOb _ v (hcs (i*5+j) v (by rwa [dT]at hj)))
   (fun j hj=>by rw[hWc];exact hD _ vs (i*5) W1 (fun t ht=>hN (i*5+t) n') _ (hN _ (by rw[hdl]at hj;omega)))
   (fun j hj=>by rw[hWf,ga];exact hNf _) (fun v hv=>h1c v (h5 hv))
 subst hW1;have hE1:∀x,((w.alloc (.cells ROW 86)).drew).cell? x=(w.drew.alloc (.cells ROW 86)).cell? x:=fun x=>rfl
 have hE2:∀x,((w.alloc (.cells ROW 86)).drew).frozen? x=(w.drew.alloc (.cells ROW 86)).frozen? x:=fun x=>rfl
 have hF1:∀x,(((w.alloc (.cells ROW 86)).drew.setCells w.heap.size (i*5) vs).drew).cell? x=((w.drew.alloc (.cells ROW 86)).setCells w.heap.size (i*5) vs).cell? x:=fun x=>rfl
 have hF2:∀x,(((w.alloc (.cells ROW 86)).drew.setCells w.heap.size (i*5) vs).drew).frozen? x=((w.drew.alloc (.cells ROW 86)).setCells w.heap.size (i*5) vs).frozen? x:=fun x=>rfl
 have hw1:i64.wrap ((i:Int)+1)=(i:Int)+1:=by rw[cI];omega
 have hw2:i64.wrap ((n:Int)+1)=(n:Int)+1:=by rw[cI];omega
 have hw3:i64.wrap ((n:Int)+1-(i:Int))=(n:Int)+1-(i:Int):=by rw[cI];omega
 have hb1:(0:Int)<=(i:Int)+1:=n'
 have hin:i<=n:=n'
 have htn:((i:Int)+1).toNat=i+1:=n'
 have hb3:(i:Int)<=(n:Int):=n'
 clear hkk hik hold hROW hG hRl hzl
 go_enter ho,hH
 go_wp2_with (first
  |(at_builtin;refine cA _ rfl _ _ _ _ rfl _ _ rfl rfl _ _ (hrz _) ?_)
  |(at_builtin;refine wpList_copy_runI _ rfl _ _ 29 29 rfl _ _ rfl rfl (hcpA _ hE1 hE2 _ _) ?_)
  |(at_builtin;refine wpList_copy_runI _ rfl _ _ 29 29 rfl _ _ rfl rfl (hcpB _ (fun _=>rfl) (fun _=>rfl) _ _ _) ?_))
 go_region_law_o (refine hM rfl _ _ 29 29 rfl (.slice (b8 ⟨w.heap.size,(i+1)*5,bI⟩) (n-i) (G-(i+1))) (.slice (b8 ⟨b,i*5,bI⟩) (n-i) (c-i)) (by simp[ha,hE]) (by simp[ha,hE]) (hcpB _ hF1 hF2 3 (G-(i+1)) (c-i)) ?_)
 go_wp2
 go_ret
 exact⟨rfl,rfl⟩
def DV(b:Nat):∀(vs:List Value) (o:Nat) (w:ea),AD (fun x=>x=b) w (w.setCells b o vs)
 |[],_,w=>AD.refl _ _
 | v::r,o,w=>by
  rw[j3]
  have C:AD (fun x=>x=b) w (w.setCell ⟨b,o,bI⟩ v):=⟨rfl,rfl,rfl,by
   show w.heap.size<=(w.heap.modify b _).size;simp,fun x I j=>by
   show(w.heap.modify b _)[x]? = _
   rw[gk,if_neg (fun e=>j e.symm)]⟩
  exact C.trans (DV b r (o+1) (w.setCell ⟨b,o,bI⟩ v))
def DZ(b:Nat):∀(vs:List Value) (o:Nat) (w:ea) (arr:Array Value) (T:hy) (fz:Nat×Nat),w.heap[b]? = b8 (.cells arr T fz)->o+vs.length<=arr.size ->
  ∃C,(w.setCells b o vs).heap[b]? = b8 (.cells C T fz)/\C.size=arr.size/\∀j,C.getD j b'=if o<=j/\j<o+vs.length then vs.getD (j-o) b' else arr.getD j b'
 |[],o,w,arr,T,fz,h,_=>⟨arr,h,rfl,fun j=>by rw[if_neg (by rw[j0];omega)]⟩
 | v::r,o,w,arr,T,fz,h,J=>by
  have R:(w.setCell ⟨b,o,bI⟩ v).heap[b]? = b8 (.cells (arr.setIfInBounds o v) T fz):=by
   show(w.heap.modify b _)[b]? = _
   rw[gk,if_pos rfl,h];rfl
  simp only[eu]at J;obtain⟨C,a1,a2,a3⟩:=DZ b r (o+1) (w.setCell ⟨b,o,bI⟩ v) _ T fz R t';refine⟨C,a1,by rw[a2];simp,fun j=>?_⟩;rw[a3]
  by_cases c:o=j
  .subst c;rw[if_neg n',if_pos p'];have I:o<arr.size:=n'
   simp[agD,e4,I]
  .by_cases c2:o+1<=j/\j<o+1+r.length
   .rw[if_pos c2,if_pos (by simp only[eu];omega),show j-o=(j-(o+1))+1 by omega,iN]
   .rw[if_neg c2,if_neg (by simp only[eu];omega)];simp[agD,e4,c]
variable{S:Nat->Prop}{w:ea}{els:List AV}
def UL{b cap:Nat}(h:Hy S w b cap 5 els)(hp:0<cap):∃arr T,w.heap[b]? = b8 (.cells arr T (0,0))/\arr.size=cap*5 /\
  ∃ cs:List Value,cs.length=els.length*5/\(∀j,j<els.length*5->cs.getD j b'=arr.getD j b')/\(∀j v,cs[j]? = b8 v->w.cell? ⟨b,j,bI⟩=b8 v)/\(∀v∈cs,v.oneCell'=h4) /\
   ∀i j,i<els.length->j<5->VR S w (cs.getD (i*5+j) b') ((els.getD i .any).cells.getD j .any):=by
 obtain⟨arr,T,fz,hr,R,hs,hv⟩:=h.row hp
 have R:fz=(0,0):=by
  rcases R with e|⟨e,_⟩
  .exact e
  .exact absurd e x'
 subst R;have hlen:=h.len;have hle:els.length*5<=arr.size:=by rw[hs];omega
 have I:∀j,j<els.length*5->(arr.toList.take (els.length*5)).getD j b'=arr.getD j undef:=fun j C=>by
  rw[gdE,cd,if_pos C,agD,gf]
 have J:∀i j,i<els.length->j<5->VR S w ((arr.toList.take (els.length*5)).getD (i*5+j) b') ((els.getD i .any).cells.getD j .any):=fun i j hi C=>by
  rw[I _ n'];exact hv i j hi C
 have U:arr.toList.length=arr.size:=p'
 refine⟨arr,T,hr,hs,arr.toList.take (els.length*5),by rw[bS,U];omega,I,fun j v C=>?_,fun v hm=>?_,J⟩
 .rw[cd]at C;split at C
  .simp only[hP,hr];rw[gf]at C;rw[C];rfl
  .cases C
 .obtain⟨j,C,rfl⟩:=iI hm;have aj:j<els.length*5:=by rw[bS]at C;omega
  have h1:j/5<els.length:=n'
  have h2:j%5<5:=n'
  have:=J (j/5) (j%5) h1 h2;rw[show j/5*5+j%5=j by omega]at this;rw[gdE,geE C]at this;refine VR.oneCell this ?_;obtain⟨c1,c2⟩:=h.cells _ h1;generalize els.getD (j/5) .any=a at c1 c2 ⊢;unfold AV.atoms at c2;rw[iZ]at c2;refine c2 _ ?_;have h3:j%5<a.cells.length:=by rw[c1];exact h2
  rw[gdE,geE h3];exact iS _
def put(els:List AV)(i:Nat)(x:AV):List AV:=els.take i++x::els.drop i
def Ny(els:List AV)(i:Nat)(x:AV):(put els i x).length=els.length+1:=by unfold put;simp;omega
variable{i:Nat}
def VV(hi:i<=els.length)(x:AV)(j:Nat):(put els i x).getD j .any=if j<i then els.getD j .any else if j=i then x else els.getD (j-1) .any:=by
 unfold put;have C:(els.take i).length=i:=by rw[bS];omega
 rw[gdE]
 by_cases c:j<i
 .rw[if_pos c,eL n',cd,if_pos c,gdE]
 .rw[if_neg c,ed n',C]
  by_cases c2:j=i
  .subst c2;simp
  .rw[if_neg c2,show j-i=(j-1-i)+1 by omega,hZ,dT,show i+(j-1-i)=j-1 by omega,gdE]
def UN(cs vs:List Value)(i j:Nat):Value:=if j<i*5 then cs.getD j b' else if j<(i+1)*5 then vs.getD (j-i*5) b' else cs.getD (j-5) b'
def aD{S':Nat->Prop}{w':ea}{rb J:Nat}{x:AV}{cs vs:List Value}{I:Array Value}{T:hy}(hi:i<=els.length)
  (hx:x.cells.length=5/\x.atoms=h4) (he:∀i,i<els.length->(els.getD i .any).cells.length=5/\(els.getD i .any).atoms=h4)
  (R:∀i j,i<els.length->j<5->VR S w (cs.getD (i*5+j) b') ((els.getD i .any).cells.getD j .any)) (aa:∀j,j<5->VR S w (vs.getD j b') (x.cells.getD j .any))
  (C:AD S w w') (hS:∀b,b<w.heap.size->S' b->S b) (hh:w'.heap[rb]? = b8 (.cells I T (0,0))) (hs:I.size=J*5) (U:els.length+1<=J)
  (hc:∀j,j<(els.length+1)*5->I.getD j b'=UN cs vs i j):Hy S' w' rb J 5 (put els i x):=by
 refine⟨x',by rw[Ny];exact U,fun k hk=>?_,fun _=>⟨I,T,(0,0),hh,.inl rfl,hs,fun k j hk hj=>?_⟩⟩
 .rw[Ny]at hk;rw[VV hi];split
  .exact he k n'
  .split
   .exact hx
   .exact he (k-1) n'
 .rw[Ny]at hk;rw[hc _ n',VV hi];unfold UN
  by_cases c1:k<i
  .rw[if_pos n',if_pos c1];exact(R k j n' hj).mono C hS
  .rw[if_neg n',if_neg c1]
   by_cases c2:k=i
   .subst c2;rw[if_pos n',if_pos rfl,show k*5+j-k*5=j by omega];exact(aa j hj).mono C hS
   .rw[if_neg n',if_neg c2,show k*5+j-5=(k-1)*5+j by omega];exact(R (k-1) j n' hj).mono C hS
def QN(cs:List Value)(a j:Nat):(cs.drop a).getD j b'=cs.getD (a+j) b':=by
 rw[gdE,dT,gdE]
def Ro{vargs:Array Value}(h:vargs.size=3):vargs = #[vargs.getD 0 b',vargs.getD 1 b',vargs.getD 2 b']:=by
 obtain⟨l⟩:=vargs
 match l,h with
 |[a,b,c],_=>rfl
set_option maxRecDepth 100000 in
def sound:Cd a' 247 (JG 5 48):=by
 refine⟨fun e=>h9 e,fun F g0 w args vargs gn e7 ad e9=>⟨fun e=>h9 e,?_⟩⟩;obtain⟨els,i,x,⟨hh,hf⟩,cf,rfl,e⟩:=jF e9;obtain⟨k,rfl⟩:∃k:Nat,i=k:=⟨i.toNat,n'⟩;have he:=hW (P:=a') ho o' rfl;have h0:=Hw ad (i:=0) p';have h1:=Hw ad (i:=1) p';have h2:=Hw ad (i:=2) p';have bo:AK (AF 0) (BN 0 [bR 5 els,.int .i64 (k:Int),.fresh 5 [x]])=b8 ⟨5,els⟩:=by rw[IX];rfl
 have bh:AK (AF 2) (BN 0 [bR 5 els,.int .i64 (k:Int),.fresh 5 [x]])=b8 ⟨5,[x]⟩:=by rw[IX];rfl
 have R:Hy (AR F g0 (BN 0 [bR 5 els,.int .i64 (k:Int),.fresh 5 [x]])) w (g0.β (AF 0)) (g0.cap (AF 0)) 5 els:=ad.home (AF 0) _ bo;have ao:Hy (AR F g0 (BN 0 [bR 5 els,.int .i64 (k:Int),.fresh 5 [x]])) w (g0.β (AF 2)) (g0.cap (AF 2)) 5 [x]:=ad.home (AF 2) _ bh;have dc:0<g0.cap (AF 0)->Mo g0 (BN 0 [bR 5 els,.int .i64 (k:Int),.fresh 5 [x]]) (AF 0):=fun h=>⟨⟨_,bo⟩,h⟩
 have eg:0<g0.cap (AF 2):=by
  have:=ao.len;simp only[ir]at this;omega
 have fm:Mo g0 (BN 0 [bR 5 els,.int .i64 (k:Int),.fresh 5 [x]]) (AF 2):=⟨⟨_,bh⟩,eg⟩;have e5:vargs.size=3:=e7;rw[Ro e5];generalize vargs.getD 0 b'=v0 at h0;generalize vargs.getD 1 b'=v1 at h1;generalize vargs.getD 2 b'=v2 at h2;obtain⟨gv,en,ab⟩:=h0;rw[bo]at en;cases en;have ab:v0 = .slice (b8 ⟨g0.β (AF 0),0,bI⟩) els.length (g0.cap (AF 0))\/(g0.cap (AF 0)=0/\v0 = .slice bI 0 0):=ab;obtain⟨gu,ek,c6⟩:=h2;rw[bh]at ek;cases ek;have h1:VR _ w v1 (.int .i64 (k:Int)):=h1;cases h1
 have hv2:v2 = .slice (b8 ⟨g0.β (AF 2),0,bI⟩) 1 (g0.cap (AF 2)):=by
  rcases c6 with e|⟨e,_⟩
  .exact e
  .omega
 subst hv2;have hk:k<=els.length:=n'
 have cc:els.length+1<=9223372036854775807:=n'
 obtain⟨e3,T2,ef,gr,vs,vl,fx,cw,b5,ct⟩:=UL ao eg;have vl:vs.length=5:=by simpa using vl
 have ct:∀j,j<5->VR _ w (vs.getD j b') (x.cells.getD j .any):=fun j hj=>by
  have:=ct 0 j p' hj;rw[jn,cB]at this;exact this
 have hx:x.cells.length=5/\x.atoms=true:=ao.cells 0 p';have b6:∀j v,vs[j]? = b8 v->w.cell? ⟨g0.β (AF 2),0+j,bI⟩=b8 v:=fun j v h=>by rw[cB];exact cw j v h
 have fa:0<g0.cap (AF 0)->g0.β (AF 2)≠g0.β (AF 0):=fun h e=>by
  have:=Vb (ad.inj _ _ fm (dc h) e);omega
 have fin:∀(cs:List Value) (rb ae:Nat) (w':ea) (I:Array Value) (T:hy),(∀i j,i<els.length->j<5->VR (AR F g0 (BN 0 [bR 5 els,.int .i64 (k:Int),.fresh 5 [x]])) w (cs.getD (i*5+j) b') ((els.getD i .any).cells.getD j .any)) ->
   w'.heap[rb]? = b8 (.cells I T (0,0))->I.size=ae*5->els.length+1<=ae->(∀j,j<(els.length+1)*5->I.getD j b'=UN cs vs k j) ->
   AD (fun b=>∃k',Mo g0 (BN 0 [bR 5 els,.int .i64 (k:Int),.fresh 5 [x]]) k'/\g0.β k'=b) w w'->(w.heap.size<=rb\/∃k',Mo g0 (BN 0 [bR 5 els,.int .i64 (k:Int),.fresh 5 [x]]) k'/\g0.β k'=rb)->¬ F rb ->
   ∃v g ob κ,(Ending.returned (.slice (b8 ⟨rb,0,bI⟩) (els.length+1) ae)) = .returned v/\fH F g0 [bR 5 els,.int .i64 (k:Int),.fresh 5 [x]] (JG 5 48).modes w v w' ((JG 5 48).F [bR 5 els,.int .i64 (k:Int),.fresh 5 [x]]).r ((JG 5 48).F [bR 5 els,.int .i64 (k:Int),.fresh 5 [x]]).outs g ob κ:=by
  intro cs rb ae w' I T fs df c7 eo hc ba hio fi;have hF:((JG 5 48).F [bR 5 els,.int .i64 (k:Int),.fresh 5 [x]])=⟨h4,.fresh 5 (put els k x),[.any,.any,.any]⟩:=e;rw[hF]
  have b9:∀j:Nat,(JG 5 48).modes[j]? ≠ b8 Md.io:=fun j=>by
   show([.mov,.bor,.mov]:List Md)[j]? ≠ b8 Md.io
   match j with
   |0=>intro h;cases h
   |1=>intro h;cases h
   |2=>intro h;cases h
   |j+3=>simp
  have only:∀q h,AK q [(0,(⟨5,put els k x⟩:Hm))]=b8 h->q=0/\h=⟨5,put els k x⟩:=by
   intro q h hg;simp only[AK,AM,beq_iff_eq]at hg;split at hg
   .rename_i e;cases hg;exact⟨e.symm,rfl⟩
   .cases hg
  refine⟨_,⟨fun _=>rb,fun _=>ae⟩,[(0,⟨5,put els k x⟩)],fun _=>0,rfl,⟨ba,fun q h hg=>?_,fun q q' a b _=>?_,fun q a=>fi,fun q a=>hio,?_,fun i j hi hj _=>?_,fun i j _ hj=>absurd hj (b9 j),fun j hj=>absurd hj (b9 j)⟩⟩
  .obtain⟨rfl,rfl⟩:=only q h hg;refine aD hk hx R.cells fs ct (ba.mono fun b _ hb=>.inr hb) (fun b hb e8=>?_) df c7 eo hc;rcases e8 with h|⟨_,_,h⟩
   .exact .inl h
   .have h:rb=b:=h;subst h;rcases hio with h|h
    .omega
    .exact .inr h
  .obtain⟨⟨h,hg⟩,_⟩:=a;obtain⟨⟨h',fp⟩,_⟩:=b;rw[(only q h hg).1,(only q' h' fp).1]
  .exact⟨by simp[AK],.inl (by simp only[Ny])⟩
  .rw[hi.1,hj.1]
 unfold DJ;rw[he];show hQ _ _ _ _ _;have ay:¬ F w.heap.size:=fun h=>absurd (ad.fb _ h) (j9 _)
 have dw:els.length+1<=dU w (els.length+1) (g0.cap (AF 0)) 86:=hT w _ _ _
 have atEnd:∀(base:Option Addr) (cs:List Value),v0 = .slice base els.length (g0.cap (AF 0))->k=els.length->g0.cap (AF 0)<els.length+1->(base=bI->els.length=0)->cs.length=els.length*5 ->
   (∀a,base=b8 a->∀j v,cs[j]? = b8 v->w.cell? (a.add j)=b8 v) ->
   (∀i j,i<els.length->j<5->VR (AR F g0 (BN 0 [bR 5 els,.int .i64 (k:Int),.fresh 5 [x]])) w (cs.getD (i*5+j) b') ((els.getD i .any).cells.getD j .any)) ->
   hQ a' 247 #[v0,.int .i64 (k:Int),.slice (b8 ⟨g0.β (AF 2),0,bI⟩) 1 (g0.cap (AF 2))] w fun e' w'=>∃v g ob κ,e' = .returned v/\fH F g0 [bR 5 els,.int .i64 (k:Int),.fresh 5 [x]] (JG 5 48).modes w v w' ((JG 5 48).F [bR 5 els,.int .i64 (k:Int),.fresh 5 [x]]).r ((JG 5 48).F [bR 5 els,.int .i64 (k:Int),.fresh 5 [x]]).outs g ob κ:=by
  intro base cs e6 bs J ej cl U a6;subst e6;have hlen:=R.len;have ds:(k:Int)=(els.length:Int):=n'
  have C:=kt base els.length (g0.cap (AF 0)) (g0.β (AF 2)) 0 (g0.cap (AF 2)) cs vs w hlen J cf cl vl ej U b6 b5;rw[←ds]at C;refine C.mono fun e' w' ⟨a1,a2⟩=>?_
  rw[a1];refine fin cs w.heap.size _ w' ((cs++vs).toArray++a7 (bN (.agg #[.string ⟨#[]⟩,.int .i64 0,.int .i64 0,.int .i64 0,.int .i64 0])) (dU w (els.length+1) (g0.cap (AF 0)) 86-(els.length+1))) 86 a6 ?_ ?_ dw (fun j hj=>?_) ?_ (.inl (hR _)) ay
  .rw[a2];exact hJ w.drew _
  .rw[bX,MJ,cm,h8,cl,vl];omega
  .unfold UN;rw[agD,dx (by rw[cm,h8,cl,vl];omega),g']
   by_cases c:j<k*5
   .rw[if_pos c,eL n',gdE]
   .rw[if_neg c,if_pos n',ed n',gdE,cl,bs]
  .rw[a2];exact(AD.drew _ w).trans (AD.alloc _ _ _)
 rcases iR (g0.cap (AF 0))with hz|hp
 .have hlen:=R.len;have b7:els.length=0:=n'
  have et:∀i j,i<els.length->j<5->VR (AR F g0 (BN 0 [bR 5 els,.int .i64 (k:Int),.fresh 5 [x]])) w (([]:List Value).getD (i*5+j) b') ((els.getD i .any).cells.getD j .any):=fun i j hi _=>n'
  rcases ab with e0|⟨_,e0⟩
  .exact atEnd (b8 ⟨g0.β (AF 0),0,bI⟩) [] e0 n' n' (fun h=>by cases h) (by simp[b7]) (fun _ _ j v h=>by simp at h) et
  .exact atEnd bI [] (by rw[e0,b7,hz]) n' n' (fun _=>b7) (by simp[b7]) (fun _ h=>by cases h) et
 .obtain⟨aj,T0,be,c8,cs,cl,cn,U,ev,a6⟩:=UL R hp;have hlen:=R.len
  have e0:v0 = .slice (b8 ⟨g0.β (AF 0),0,bI⟩) els.length (g0.cap (AF 0)):=by
   rcases ab with e|⟨e,_⟩
   .exact e
   .omega
  have a8:∀j,j<aj.size->(w.cell? ⟨g0.β (AF 0),j,bI⟩).isSome=true:=fun j hj=>by
   simp only[hP,be];rw[ew hj];rfl
  have b4:∀j,w.frozen? ⟨g0.β (AF 0),j,bI⟩=false:=fun j=>by simp[hC,be]
  have bz:∀j,w.frozen? ⟨g0.β (AF 2),j,bI⟩=false:=fun j=>by simp[hC,ef]
  have au:∃k',Mo g0 (BN 0 [bR 5 els,.int .i64 (k:Int),.fresh 5 [x]]) k'/\g0.β k'=g0.β (AF 0):=⟨_,dc hp,rfl⟩;have cb:¬ F (g0.β (AF 0)):=ad.nF _ (dc hp)
  by_cases J:els.length+1<=g0.cap (AF 0)
  .have fy:(els.length+1)*5<=aj.size:=by rw[c8];omega
   by_cases bs:k=els.length
   .have ds:(k:Int)=(els.length:Int):=n'
    have C:=kr (g0.β (AF 0)) els.length (g0.cap (AF 0)) (g0.β (AF 2)) 0 (g0.cap (AF 2)) vs w J cc vl (fun j hj=>a8 _ n') (fun j hj=>b4 _) b6 b5;rw[←ds,←e0]at C;refine C.mono fun e' w' ⟨a1,a2⟩=>?_
    rw[a1];obtain⟨I,b1,b2,b3⟩:=DZ (g0.β (AF 0)) vs (els.length*5) w aj T0 (0,0) be n';refine fin cs (g0.β (AF 0)) _ w' I T0 a6 (by rw[a2];exact b1) (by rw[b2,c8]) J (fun j hj=>?_) ?_ (.inr au) cb
    .rw[b3];unfold UN
     by_cases c:j<k*5
     .rw[if_neg n',if_pos c,cn j n']
     .rw[if_pos n',if_neg c,if_pos n',bs]
    .rw[a2];exact(DV _ _ _ _).mono fun b _ hb=>by subst hb;exact au
   .have db:k<els.length:=n'
    have C:=shift (g0.β (AF 0)) els.length (g0.cap (AF 0)) k (g0.β (AF 2)) 0 (g0.cap (AF 2)) cs vs w db J cc (fa hp) cl vl U (fun j hj=>a8 _ n') (fun j hj=>b4 _) b6 ev b5
     T2 T0 e3.size aj.size (by simp[hL,ef]) (by simp[hL,be]) n' (bz _) (bz _)
    rw[←e0]at C;refine C.mono fun e' w' ⟨a1,a2⟩=>?_
    rw[a1];have dl:(cs.drop (k*5)).length=(els.length-k)*5:=by rw[d',cl,fI]
    obtain⟨az,b1,b2,b3⟩:=DZ (g0.β (AF 0)) (cs.drop (k*5)) ((k+1)*5) w.drew aj T0 (0,0) be (by rw[dl];omega);obtain⟨I,c1,c2,c3⟩:=DZ (g0.β (AF 0)) vs (k*5) _ az T0 (0,0) b1 n';refine fin cs (g0.β (AF 0)) _ w' I T0 a6 (by rw[a2];exact c1) (by rw[c2,b2,c8]) J (fun j hj=>?_) ?_ (.inr au) cb
    .rw[c3,b3,dl];unfold UN
     by_cases c:j<k*5
     .rw[if_neg n',if_neg n',if_pos c,cn j n']
     .rw[if_neg c]
      by_cases c':j<(k+1)*5
      .rw[if_pos n',if_pos c']
      .rw[if_neg n',if_pos n',if_neg c',QN]
       congr 1;omega
    .rw[a2];refine AD.mono (S:=fun x=>x=g0.β (AF 0)) ?_ fun b _ hb=>by subst hb;exact au
     exact((AD.drew _ w).trans (DV _ _ _ _)).trans (DV _ _ _ _)
  .by_cases bs:k=els.length
   .exact atEnd (b8 ⟨g0.β (AF 0),0,bI⟩) cs e0 bs n' (fun h=>by cases h) cl (fun a h j v hj=>by
     cases h
     rw[ca,cB];exact U j v hj) a6
   .have db:k<els.length:=n'
    have C:=grow (g0.β (AF 0)) els.length (g0.cap (AF 0)) k (g0.β (AF 2)) 0 (g0.cap (AF 2)) cs vs w db hlen n' cf cl vl U b6 ev b5;rw[←e0]at C;refine C.mono fun e' w' ⟨a1,a2⟩=>?_
    rw[a1];have dl:(cs.drop (k*5)).length=(els.length-k)*5:=by rw[d',cl,fI]
    generalize hG:dU w (els.length+1) (g0.cap (AF 0)) 86=G at dw a2 ⊢
    have ax:((cs.take (k*5)).toArray++a7 (bN (.agg #[.string ⟨#[]⟩,.int .i64 0,.int .i64 0,.int .i64 0,.int .i64 0])) (els.length+1-k)++a7 (bN (.agg #[.string ⟨#[]⟩,.int .i64 0,.int .i64 0,.int .i64 0,.int .i64 0])) (G-(els.length+1))).size=G*5:=by
     rw[bX,bX,MJ,MJ,cm,bS,cl];omega
    have bb:∀j,j<k*5->((cs.take (k*5)).toArray++a7 (bN (.agg #[.string ⟨#[]⟩,.int .i64 0,.int .i64 0,.int .i64 0,.int .i64 0])) (els.length+1-k)++a7 (bN (.agg #[.string ⟨#[]⟩,.int .i64 0,.int .i64 0,.int .i64 0,.int .i64 0])) (G-(els.length+1))).getD j b'=cs.getD j undef:=fun j hj=>by
     have h1:j<(cs.take (k*5)).toArray.size:=by rw[cm,bS,cl];omega
     rw[agD,dx (by rw[bX];omega),dx h1,g',cd,if_pos hj,gdE]
    generalize((cs.take (k*5)).toArray++a7 (bN (.agg #[.string ⟨#[]⟩,.int .i64 0,.int .i64 0,.int .i64 0,.int .i64 0])) (els.length+1-k)++a7 (bN (.agg #[.string ⟨#[]⟩,.int .i64 0,.int .i64 0,.int .i64 0,.int .i64 0])) (G-(els.length+1)))=ROW at a2 ax bb;have b0:((w.alloc (.cells ROW 86)).drew).heap[w.heap.size]? = b8 (.cells ROW 86 (0,0)):=hJ w _;obtain⟨az,b1,b2,b3⟩:=DZ w.heap.size vs (k*5) _ ROW 86 (0,0) b0 (by rw[ax];omega);have fu:(((w.alloc (.cells ROW 86)).drew.setCells w.heap.size (k*5) vs).drew).heap[w.heap.size]? = b8 (.cells az 86 (0,0)):=b1;obtain⟨I,c1,c2,c3⟩:=DZ w.heap.size (cs.drop (k*5)) ((k+1)*5) _ az 86 (0,0) fu (by rw[dl,b2,ax];omega);refine fin cs w.heap.size _ w' I 86 a6 (by rw[a2];exact c1) (by rw[c2,b2,ax]) dw (fun j hj=>?_) ?_ (.inl (hR _)) ay
    .rw[c3,b3,dl];unfold UN
     by_cases c:j<k*5
     .rw[if_neg n',if_neg n',if_pos c,bb j c]
     .rw[if_neg c]
      by_cases c':j<(k+1)*5
      .rw[if_neg n',if_pos n',if_pos c']
      .rw[if_pos n',if_neg c',QN]
       congr 1;omega
    .rw[a2];refine AD.mono (S:=fun x=>x=w.heap.size) ?_ fun b hb hn=>n'
     exact((((AD.alloc _ w _).trans (AD.drew _ _)).trans (DV _ _ _ _)).trans (AD.drew _ _)).trans (DV _ _ _ _)
end Go.Proofs.YtegmpdmpgmpiaaaGreatDoor.insStar
namespace Go.Proofs.YtegmpdmpgmpiaaaGreatDoor
open Go Go.RowKit
def Lq:Ao:=JG 5 48
theorem sV:Lq.modes=[.mov,.bor,.mov]:=rfl
theorem px:Lq.flat=false:=rfl
attribute [go_sem] sV px
def pu{α:Type}(f:α->AV){l:List α}{i:Int}{v j:List α}(h:kZ 48 l i v=b8 j):Lq.F [.fresh 5 (hO f l),.int .i64 i,.fresh 5 (hO f v)]=⟨h4,.fresh 5 (hO f j),[.any,.any,.any]⟩:=pw 5 f h
def oW:Cd a' 247 Lq:=insStar.sound
end Go.Proofs.YtegmpdmpgmpiaaaGreatDoor
