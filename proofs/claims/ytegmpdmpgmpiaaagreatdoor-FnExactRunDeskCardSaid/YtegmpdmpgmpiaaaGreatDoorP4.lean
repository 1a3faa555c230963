/- Lemmas and walks, several texts in one. No condition. -/
import Derived.Test.YtegmpdmpgmpiaaaGreatDoorP3
import Derived.Test.YtegmpdmpgmpiaaaGreatDoorRows
import Derived.WalkKit
import Derived.Shelf.Spec.SlicesInsertGrow
import Derived.Deep.AppendSrc
import Derived.Lib.AppendZerosOnto
import Derived.Lib.Overlaps
open Array renaming size_append->bX,getElem?_append_left->df,getElem?_setIfInBounds->e6,getElem?_eq_getElem->ea,getElem?_toList->fA,getElem?_modify->fI
open Bool renaming false->dX,true->ga,noConfusion->gk
open Go renaming undef->b',grownCap->dw,run_firstCells_some->d',World->e7,info_parts->gf,TypeId->gv,block_lt_of_cell->g',heap_alloc_new->h9,growslice_fits->ha,Calls->hy,grownCap_ge->hB,goInt->hC,run_storeCells_cells->hW,callFunc->hX,run_firstCells_none->hZ,run_callFunc_extern->ic,run_append_room_src->ih,run_append_grow_src->ik,grownCap_le_maxLen->ir,Src->iB
open Go.Act renaming eval->gn,put->h6
open Go.Addr renaming add_lit->ca
open Go.Builtin renaming zeroCells->a',copy_->db,append_->ef,firstCells->gg,lenOf->hT
open Go.IntKind renaming wrap_i64->cS
open Go.Lib renaming wpList_append_run->cI,run_append_grow_zeros->hE,run_overlaps_apart->hM
open Go.Proofs renaming isSome_setCells->h5,step_copy_runI->ho,enters_of->hD
open Go.Proofs.Tryz renaming prog->b5,func247->gr,func208->gu,ntmps247->h7,ntmps208->h8
open Go.Proofs.YtegmpdmpgmpiaaaGreatDoor.AV renaming fresh->bR
open Go.Src renaming ofSlice->gw
open Go.Value renaming cells->bN
open Go.World renaming cell?_setCells_out->ek,frozen?_setCells->fx,cell?_alloc_past->fy,frozen?->h4,shape?->hn,cell?->hr,frozen?_alloc_at->hJ,cell?_alloc_at->hL,setCells->hY
open List renaming length_take->bS,getElem?_take->cc,size_toArray->cA,getElem?_drop->ds,length_drop->dT,getElem?_append_right->e8,length_cons->e9,getElem?_append_left->ec,getElem?_toArray->f',mem_of_mem_drop->gb,length_append->gj,map->hq,length_eq_zero_iff->hH,getElem?_cons_succ->hI,length_singleton->hK,getElem_of_mem->hO,getD_cons_succ->hP,getElem_mem->hR,all_eq_true->hS,length_nil->hV
open Nat renaming zero_add->cL,sub_mul->eL,min_def->fm,le_refl->hA,eq_zero_or_pos->hQ,lt_irrefl->ix,zero_mul->iI
open Option renaming some->b7,none->bI
set_option linter.defProp false
set_option linter.unusedSimpArgs false
set_option linter.unusedVariables false
set_option maxHeartbeats 4000000
open Go.IntKind (i64 u64)
namespace Go.Proofs.YtegmpdmpgmpiaaaGreatDoor.insEstimate
open Go Go.RowKit Go.Lib Go.Proofs.YtegmpdmpgmpiaaaGreatDoor
theorem uS:b5.underlying 30=b7 (.slice 89):=by kernel_rfl
theorem iE:(b5.info? 89).map (fun i=>(i.zero,i.size,i.bytes))=b7 (b7 (.agg #[.int .i64 0,.string ⟨#[]⟩,.string ⟨#[]⟩,.int .i64 0,.bool dX]),5,56):=by kernel_rfl
theorem mixed:b5.follows Departure.mixedOrders=ga:=by kernel_rfl
theorem LG(k:Nat):(a' (bN (.agg #[.int .i64 0,.string ⟨#[]⟩,.string ⟨#[]⟩,.int .i64 0,.bool dX])) k).size=k*5:=by
 simp[a',bN]
theorem KD(w:e7)(ty:gv)(b o p I:Nat)(a:Addr)(g i m:Nat)(cs:List Value)
  (hm:m=Nat.min g p) (hl:cs.length=m*5)
  (C:∀ j v,cs[j]? = b7 v->w.cell? (a.add j)=b7 v) (hc:∀ j,j<cs.length->(w.cell? ⟨b,o+j,bI⟩).isSome=ga) (hf:∀ j,j<cs.length->w.frozen? ⟨b,o+j,bI⟩=dX) (h1:∀ v∈cs,v.oneCell'=ga) :
  (db #[30,30] ty #[.slice (b7 ⟨b,o,bI⟩) p I,.slice (b7 a) g i]).run b5 w = .ok (hC m) (w.setCells b o cs):=by
 have R:=hW (P:=b5) b o cs 0 w (by simpa using hc) (by simpa using hf) h1;obtain⟨i0,U,ab,J,aa⟩:=gf iE;have T:=d' (P:=b5) w 5 m a g i cs hl C;simp[db,run_underlying uS,hT,sizeOf,typeInfo,U,J,← hm,T,R]
theorem xG(w:e7)(i g U b o lb cb:Nat)(C:i≠b)(tA tB:gv)(p j:Nat)(J:w.shape? i=b7 (tA,p))(I:w.shape? b=b7 (tB,j))(P:j≠0)
  (T:w.frozen? ⟨i,g,bI⟩=dX) (R:w.frozen? ⟨i,p,bI⟩=dX) :
  (hX 248 #[.slice (b7 ⟨i,g,bI⟩) 1 U,.slice (b7 ⟨b,o,bI⟩) lb cb]).run b5 w = .ok (.value (.bool dX)) w:=by
 rw[ic Tryz.func248 (by kernel_rfl) (by kernel_rfl) (by kernel_rfl) (e:=Extern.SlicesOverlaps.overlaps #[30,30] #[4]) (by kernel_rfl),
  hM w 30 4 89 uS 5 Tryz.sizeOf89 ⟨i,g,bI⟩ ⟨b,o,bI⟩ 1 U lb cb C tA tB p j J I P T R]
 rfl
set_option maxRecDepth 100000 in
theorem shift(b n c i vb voff vc:Nat)(cs vs:List Value)(w:e7)(hi:i<n)(hroom:n+1<=c)(hn63:n+1<=9223372036854775807)(hvb:vb≠b)
  (hcl:cs.length=n*5) (hvl:vs.length=5)
  (hcs:∀ j v,cs[j]? = b7 v->w.cell? ⟨b,j,bI⟩=b7 v) (hsp:∀ j,j<(n+1)*5->(w.cell? ⟨b,j,bI⟩).isSome=ga) (hfz:∀ j,j<(n+1)*5->w.frozen? ⟨b,j,bI⟩=dX)
  (hvs:∀ j v,vs[j]? = b7 v->w.cell? ⟨vb,voff+j,bI⟩=b7 v) (h1c:∀ v∈cs,v.oneCell'=ga) (h1v:∀ v∈vs,v.oneCell'=ga)
  (tA tB:gv) (kA kB:Nat) (hsa:w.shape? vb=b7 (tA,kA)) (hsb:w.shape? b=b7 (tB,kB)) (hkB:kB≠0) (hfa:w.frozen? ⟨vb,voff,bI⟩=dX) (hfe:w.frozen? ⟨vb,kA,bI⟩=dX) :
  hy b5 208 #[.slice (b7 ⟨b,0,bI⟩) n c,.int .i64 i,.slice (b7 ⟨vb,voff,bI⟩) 1 vc] w fun e w'=>
   e = .returned (.slice (b7 ⟨b,0,bI⟩) (n+1) c)∧w'=(w.drew.setCells b ((i+1)*5) (cs.drop (i*5))).setCells b (i*5) vs:=by
 have mixed:=mixed;have hz2:¬ ((i:Int)=(n:Int)):=by omega
 have hov:∀ lb cb,(hX 248 #[.slice (b7 ⟨vb,voff,bI⟩) 1 vc,.slice (b7 ⟨b,(i+1)*5,bI⟩) lb cb]).run b5 w = .ok (.value (.bool dX)) w:=fun lb cb=>xG w vb voff vc b ((i+1)*5) lb cb hvb tA tB kA kB hsa hsb hkB hfa hfe
 have hdl:(cs.drop (i*5)).length=(n-i)*5:=by rw[dT,hcl,eL]
 have hw1:i64.wrap ((i:Int)+1)=(i:Int)+1:=by rw[cS];omega
 have hw2:i64.wrap ((n:Int)+1)=(n:Int)+1:=by rw[cS];omega
 have hb1:(0:Int)<=(i:Int)+1:=by omega
 have hin:i<=n:=by omega
 have htn:((i:Int)+1).toNat=i+1:=by omega
 have hb2:¬ (c=i+1):=by omega
 have hb3:(i:Int)<=(n:Int)+1:=by omega
 have hb4:¬ (c=i):=by omega
 have hb5:¬ ((c:Int)<(n:Int)+1):=by omega
 have hcp1:∀ ty dc sc,(db #[30,30] ty #[.slice (b7 ⟨b,(i+1)*5,bI⟩) (n-i) dc,.slice (b7 ⟨b,i*5,bI⟩) (n+1-i) sc]).run b5 w.drew = .ok (hC ((n-i:Nat):Int)) (w.drew.setCells b ((i+1)*5) (cs.drop (i*5))):=fun ty dc sc=>
  KD w.drew ty b ((i+1)*5) (n-i) dc ⟨b,i*5,bI⟩ (n+1-i) sc (n-i) (cs.drop (i*5)) (by simp only[fm];split<;>omega) hdl
   (fun j v hj=>by rw[ca];exact hcs (i*5+j) v (by rwa [ds] at hj))
   (fun j hj=>hsp _ (by rw[hdl] at hj;omega)) (fun j hj=>hfz _ (by rw[hdl] at hj;omega)) (fun v hv=>h1c v (gb hv))
 obtain⟨W1,hW1⟩:∃ W1,W1=w.drew.setCells b ((i+1)*5) (cs.drop (i*5)):=⟨_,rfl⟩
 have hsp1:∀ k,k<(n+1)*5->(W1.cell? ⟨b,k,bI⟩).isSome=true:=fun k hk=>by
  rw[hW1];exact h5 b (cs.drop (i*5)) ((i+1)*5) w.drew (fun j hj=>hsp ((i+1)*5+j) (by rw[hdl] at hj;omega)) k (hsp k hk)
 have hcp2:∀ (W:e7),(∀ x,W.cell? x=W1.cell? x)->(∀ x,W.frozen? x=W1.frozen? x)->∀ ty dc,(db #[30,30] ty #[.slice (b7 ⟨b,i*5,bI⟩) (n+1-i) dc,.slice (b7 ⟨vb,voff,bI⟩) 1 vc]).run b5 W = .ok (hC 1) (W.setCells b (i*5) vs):=fun W hWc hWf ty dc=>
  KD W ty b (i*5) (n+1-i) dc ⟨vb,voff,bI⟩ 1 vc 1 vs (by simp only[fm];split<;>omega) (by rw[hvl])
   (fun j v hj=>by
    rw[ca,hWc,hW1,ek b _ _ _ _ (fun h _=>absurd h hvb)];exact hvs j v hj)
   (fun j hj=>by rw[hWc];exact hsp1 _ (by omega)) (fun j hj=>by rw[hWf,hW1,fx];exact hfz _ (by omega)) h1v
 rw[← hW1] at hcp1
 go_enter gu,h8
 go_wp2_with (simp only[hov])
 go_region_law_o (refine ho rfl _ _ 30 30 rfl _ _ (by simp[gn,h6]) (by simp[gn,h6]) (hcp1 _ _ _) ?_)
 go_wp2_with (at_builtin;refine wpList_copy_runI _ rfl _ _ 30 30 rfl _ _ rfl rfl (hcp2 _ (fun _=>rfl) (fun _=>rfl) _ _) ?_)
 go_ret
 first|exact⟨rfl,rfl⟩|exact⟨rfl,by rw[hW1]⟩
set_option maxRecDepth 100000 in
theorem gO(b n c vb voff vc:Nat)(vs:List Value)(w:e7)(hroom:n+1<=c)(hn63:n+1<=9223372036854775807)(hvl:vs.length=5)
  (hsp:∀ j,j<5->(w.cell? ⟨b,n*5+j,bI⟩).isSome=ga) (hfz:∀ j,j<5->w.frozen? ⟨b,n*5+j,bI⟩=dX)
  (hvs:∀ j v,vs[j]? = b7 v->w.cell? ⟨vb,voff+j,bI⟩=b7 v) (h1v:∀ v∈vs,v.oneCell'=ga) :
  hy b5 208 #[.slice (b7 ⟨b,0,bI⟩) n c,.int .i64 n,.slice (b7 ⟨vb,voff,bI⟩) 1 vc] w fun e w'=>
   e = .returned (.slice (b7 ⟨b,0,bI⟩) (n+1) c)∧w'=w.setCells b (n*5) vs:=by
 obtain⟨i0,hi0,hz0,hzs,hzb⟩:=gf iE
 have hsrc:iB b5 i0.size 30 (.slice (b7 ⟨vb,voff,bI⟩) 1 vc) 1 vs w:=by
  rw[hzs];exact gw w uS ⟨vb,voff,bI⟩ 1 vc vs (by omega) (fun j u hj=>by rw[ca];exact hvs j u hj) h1v
 have hrun:∀ ty,(ef #[30,30] ty #[.slice (b7 ⟨b,0,bI⟩) n c,.slice (b7 ⟨vb,voff,bI⟩) 1 vc]).run b5 w = .ok (.slice (b7 ⟨b,0,bI⟩) (n+1) c) (w.setCells b (n*5) vs):=fun ty=>by
  have h:=ih w 30 30 ty 89 i0 uS hi0 b 0 n c (.slice (b7 ⟨vb,voff,bI⟩) 1 vc) 1 vs hsrc hroom (fun j hj=>by rw[hzs,cL];exact hsp j (by omega)) (fun j hj=>by rw[hzs,cL];exact hfz j (by omega));rw[hzs,cL] at h;exact h
 have hn63:¬ ((n:Int)<0):=by omega
 go_enter gu,h8
 go_wp2_with (at_builtin;refine cI _ rfl _ _ _ _ rfl _ _ rfl rfl _ _ (hrun _) ?_)
 go_ret
 exact⟨rfl,rfl⟩
set_option maxRecDepth 100000 in
theorem gP(base:Option Addr)(n c vb voff vc:Nat)(cs vs:List Value)(w:e7)(hnc:n<=c)(hroom:c<n+1)(hbig:(n+1)*56<=140737488355328)
  (hcl:cs.length=n*5) (hvl:vs.length=5) (hnil:base=bI->n=0)
  (hcs:∀ a,base=b7 a->∀ j v,cs[j]? = b7 v->w.cell? (a.add j)=b7 v)
  (hvs:∀ j v,vs[j]? = b7 v->w.cell? ⟨vb,voff+j,bI⟩=b7 v) (h1v:∀ v∈vs,v.oneCell'=ga) :
  hy b5 208 #[.slice base n c,.int .i64 n,.slice (b7 ⟨vb,voff,bI⟩) 1 vc] w fun e w'=>
   e = .returned (.slice (b7 ⟨w.heap.size,0,bI⟩) (n+1) (dw w (n+1) c 89)) ∧
   w'=w.drew.alloc (.cells ((cs++vs).toArray++a' (bN (.agg #[.int .i64 0,.string ⟨#[]⟩,.string ⟨#[]⟩,.int .i64 0,.bool dX])) (dw w (n+1) c 89-(n+1))) 89):=by
 obtain⟨i0,hi0,hz0,hzs,hzb⟩:=gf iE
 have hsrc:iB b5 i0.size 30 (.slice (b7 ⟨vb,voff,bI⟩) 1 vc) 1 vs w:=by
  rw[hzs];exact gw w uS ⟨vb,voff,bI⟩ 1 vc vs (by omega) (fun j u hj=>by rw[ca];exact hvs j u hj) h1v
 have hold:(gg i0.size n (.slice base n c)).run b5 w.drew = .ok cs.toArray w.drew:=by
  rw[hzs];cases base with
  | none=>
   have h0:=hnil rfl;subst h0;rw[hH.1 (show cs.length=0 by omega)];exact hZ w.drew 5 0 0 c
  | some a=>exact d' w.drew 5 n a n c cs hcl (fun j v hj=>hcs a rfl j v hj)
 have hrun:∀ ty,(ef #[30,30] ty #[.slice base n c,.slice (b7 ⟨vb,voff,bI⟩) 1 vc]).run b5 w=_:=fun ty=>
  ik w 30 30 ty 89 i0 _ uS hi0 hz0 base n c cs hold _ 1 vs hsrc hroom (by omega) (by rw[hzb];exact ha hroom hbig)
 go_enter gu,h8
 cases base with
 | none=>
  have h0:=hnil rfl;subst h0
  go_wp2_with (at_builtin;refine cI _ rfl _ _ _ _ rfl _ _ rfl rfl _ _ (hrun _) ?_)
  go_ret
  exact⟨rfl,rfl⟩
 | some a=>
  obtain⟨ab,ao,asp⟩:=a
  go_wp2_with (at_builtin;refine cI _ rfl _ _ _ _ rfl _ _ rfl rfl _ _ (hrun _) ?_)
  all_goals (go_ret;exact⟨rfl,rfl⟩)
set_option maxRecDepth 100000 in
theorem grow(b n c i vb voff vc:Nat)(cs vs:List Value)(w:e7)(hi:i<n)(hnc:n<=c)(hroom:c<n+1)(hbig:(n+1)*56<=140737488355328)
  (hcl:cs.length=n*5) (hvl:vs.length=5)
  (hcs:∀ j v,cs[j]? = b7 v->w.cell? ⟨b,j,bI⟩=b7 v)
  (hvs:∀ j v,vs[j]? = b7 v->w.cell? ⟨vb,voff+j,bI⟩=b7 v) (h1c:∀ v∈cs,v.oneCell'=ga) (h1v:∀ v∈vs,v.oneCell'=ga) :
  hy b5 208 #[.slice (b7 ⟨b,0,bI⟩) n c,.int .i64 i,.slice (b7 ⟨vb,voff,bI⟩) 1 vc] w fun e w'=>
   e = .returned (.slice (b7 ⟨w.heap.size,0,bI⟩) (n+1) (dw w (n+1) c 89)) ∧
   w'=(((w.alloc (.cells ((cs.take (i*5)).toArray++a' (bN (.agg #[.int .i64 0,.string ⟨#[]⟩,.string ⟨#[]⟩,.int .i64 0,.bool dX])) (n+1-i)++a' (bN (.agg #[.int .i64 0,.string ⟨#[]⟩,.string ⟨#[]⟩,.int .i64 0,.bool dX])) (dw w (n+1) c 89-(n+1))) 89)).drew.setCells w.heap.size (i*5) vs).drew).setCells w.heap.size ((i+1)*5) (cs.drop (i*5)):=by
 have mixed:=mixed;obtain⟨i0,hi0,hz0,hzs,hzb⟩:=gf iE;have hz2:¬ ((i:Int)=(n:Int)):=by omega
 have hz3:(c:Int)<(n:Int)+1:=by omega
 have hbw:b<w.heap.size:=g' (hcs 0 _ (geE (by omega)));have hvw:vb<w.heap.size:=g' (hvs 0 _ (geE (by omega)));have hkk:(n:Int)+1-(i:Int)=((n+1-i:Nat):Int):=by omega
 have hik:i+(n+1-i)=n+1:=by omega
 have hold:(gg i0.size i (.slice (b7 ⟨b,0,bI⟩) i c)).run b5 w.drew = .ok (cs.take (i*5)).toArray w.drew:=by
  rw[hzs]
  exact d' w.drew 5 i ⟨b,0,bI⟩ i c (cs.take (i*5)) (by rw[bS];omega) (fun j v hj=>by
   rw[ca,cL];rw[cc] at hj;split at hj
   ·exact hcs j v hj
   ·cases hj)
 have hrz:∀ ty,(ef #[30,3] ty #[.slice (b7 ⟨b,0,bI⟩) i c,.int .i64 ((n:Int)+1-(i:Int))]).run b5 w =
   .ok (.slice (b7 ⟨w.heap.size,0,bI⟩) (n+1) (dw w (n+1) c 89)) (w.drew.alloc (.cells ((cs.take (i*5)).toArray++a' (bN (.agg #[.int .i64 0,.string ⟨#[]⟩,.string ⟨#[]⟩,.int .i64 0,.bool dX])) (n+1-i)++a' (bN (.agg #[.int .i64 0,.string ⟨#[]⟩,.string ⟨#[]⟩,.int .i64 0,.bool dX])) (dw w (n+1) c 89-(n+1))) 89)):=fun ty=>by
  have h:=hE w 30 3 ty 89 i0 _ .i64 .i64 uS (by kernel_rfl) hi0 hz0 (b7 ⟨b,0,bI⟩) i c (cs.take (i*5)) hold (n+1-i) (by omega) (by omega) (by omega) (by omega) (by rw[hzb];omega) (by rw[hzb,hik];exact ha hroom hbig);rw[hik] at h;rw[hkk];exact h
 obtain⟨G,hG⟩:∃ G,G=dw w (n+1) c 89:=⟨_,rfl⟩;obtain⟨ROW,hROW⟩:∃ ROW:Array Value,ROW=(cs.take (i*5)).toArray++a' (bN (.agg #[.int .i64 0,.string ⟨#[]⟩,.string ⟨#[]⟩,.int .i64 0,.bool dX])) (n+1-i)++a' (bN (.agg #[.int .i64 0,.string ⟨#[]⟩,.string ⟨#[]⟩,.int .i64 0,.bool dX])) (G-(n+1)):=⟨_,rfl⟩;rw[← hG] at hrz ⊢;rw[← hROW] at hrz ⊢;have hzl:∀ k,(a' (bN (.agg #[.int .i64 0,.string ⟨#[]⟩,.string ⟨#[]⟩,.int .i64 0,.bool dX])) k).size=k*5:=LG
 have hRl:(n+1)*5<=ROW.size:=by
  rw[hROW,bX,bX,hzl,hzl,cA,bS];omega
 obtain⟨W1,hW1⟩:∃ W1,W1=w.drew.alloc (.cells ROW 89):=⟨_,rfl⟩;rw[← hW1] at hrz
 have hN:∀ j,j<(n+1)*5->(W1.cell? ⟨w.heap.size,j,bI⟩).isSome=true:=fun j hj=>by
  rw[hW1,hL (w:=w.drew) ROW _ w.heap.size j rfl,ea (by omega)];rfl
 have hNf:∀ j,W1.frozen? ⟨w.heap.size,j,bI⟩=false:=fun j=>by rw[hW1];exact hJ (w:=w.drew) ROW _ w.heap.size j rfl
 have hOb:∀ j v,w.cell? ⟨b,j,bI⟩=b7 v->W1.cell? ⟨b,j,bI⟩=b7 v:=fun j v h=>by rw[hW1,fy (w:=w.drew) _ b j hbw];exact h
 have hOv:∀ j v,w.cell? ⟨vb,j,bI⟩=b7 v->W1.cell? ⟨vb,j,bI⟩=b7 v:=fun j v h=>by rw[hW1,fy (w:=w.drew) _ vb j hvw];exact h
 have hcpA:∀ (W:e7),(∀ x,W.cell? x=W1.cell? x)->(∀ x,W.frozen? x=W1.frozen? x)->∀ ty dc,(db #[30,30] ty #[.slice (b7 ⟨w.heap.size,i*5,bI⟩) (n+1-i) dc,.slice (b7 ⟨vb,voff,bI⟩) 1 vc]).run b5 W = .ok (hC 1) (W.setCells w.heap.size (i*5) vs):=fun W hWc hWf ty dc=>
  KD W ty w.heap.size (i*5) (n+1-i) dc ⟨vb,voff,bI⟩ 1 vc 1 vs (by simp only[fm];split<;>omega) (by rw[hvl])
   (fun j v hj=>by rw[ca,hWc];exact hOv _ v (hvs j v hj))
   (fun j hj=>by rw[hWc];exact hN _ (by omega)) (fun j hj=>by rw[hWf];exact hNf _) h1v
 have hGn:n+1<=G:=by rw[hG];exact hB w _ _ _
 have hG63:G<=9223372036854775807:=by
  have:=ir w (n+1) c 89 (by unfold maxLen;omega);rw[← hG] at this;unfold maxLen at this;omega
 have hGi:¬ (G=i):=by omega
 have hGim:¬ (G=i+1):=by omega
 have hci:¬ (c=i):=by omega
 have hbN:b≠w.heap.size:=by omega
 have hdl:(cs.drop (i*5)).length=(n-i)*5:=by rw[dT,hcl,eL]
 have hcpB:∀ (W:e7),(∀ x,W.cell? x=(W1.setCells w.heap.size (i*5) vs).cell? x)->(∀ x,W.frozen? x=(W1.setCells w.heap.size (i*5) vs).frozen? x)->∀ ty dc sc,(db #[30,30] ty #[.slice (b7 ⟨w.heap.size,(i+1)*5,bI⟩) (n-i) dc,.slice (b7 ⟨b,i*5,bI⟩) (n-i) sc]).run b5 W = .ok (hC ((n-i:Nat):Int)) (W.setCells w.heap.size ((i+1)*5) (cs.drop (i*5))):=fun W hWc hWf ty dc sc=>
  KD W ty w.heap.size ((i+1)*5) (n-i) dc ⟨b,i*5,bI⟩ (n-i) sc (n-i) (cs.drop (i*5)) (by simp only[fm];split<;>omega) hdl
   (fun j v hj=>by
    rw[ca,hWc,ek _ _ _ _ _ (fun h _=>absurd h hbN)];exact hOb _ v (hcs (i*5+j) v (by rwa [ds] at hj)))
   (fun j hj=>by rw[hWc];exact h5 _ vs (i*5) W1 (fun t ht=>hN (i*5+t) (by omega)) _ (hN _ (by rw[hdl] at hj;omega)))
   (fun j hj=>by rw[hWf,fx];exact hNf _) (fun v hv=>h1c v (gb hv))
 subst hW1;have hE1:∀ x,((w.alloc (.cells ROW 89)).drew).cell? x=(w.drew.alloc (.cells ROW 89)).cell? x:=fun x=>rfl
 have hE2:∀ x,((w.alloc (.cells ROW 89)).drew).frozen? x=(w.drew.alloc (.cells ROW 89)).frozen? x:=fun x=>rfl
 have hF1:∀ x,(((w.alloc (.cells ROW 89)).drew.setCells w.heap.size (i*5) vs).drew).cell? x=((w.drew.alloc (.cells ROW 89)).setCells w.heap.size (i*5) vs).cell? x:=fun x=>rfl
 have hF2:∀ x,(((w.alloc (.cells ROW 89)).drew.setCells w.heap.size (i*5) vs).drew).frozen? x=((w.drew.alloc (.cells ROW 89)).setCells w.heap.size (i*5) vs).frozen? x:=fun x=>rfl
 have hw1:i64.wrap ((i:Int)+1)=(i:Int)+1:=by rw[cS];omega
 have hw2:i64.wrap ((n:Int)+1)=(n:Int)+1:=by rw[cS];omega
 have hw3:i64.wrap ((n:Int)+1-(i:Int))=(n:Int)+1-(i:Int):=by rw[cS];omega
 have hb1:(0:Int)<=(i:Int)+1:=by omega
 have hin:i<=n:=by omega
 have htn:((i:Int)+1).toNat=i+1:=by omega
 have hb3:(i:Int)<=(n:Int):=by omega
 clear hkk hik hold hROW hG hRl hzl
 go_enter gu,h8
 go_wp2_with (first
  | (at_builtin;refine cI _ rfl _ _ _ _ rfl _ _ rfl rfl _ _ (hrz _) ?_)
  | (at_builtin;refine wpList_copy_runI _ rfl _ _ 30 30 rfl _ _ rfl rfl (hcpA _ hE1 hE2 _ _) ?_)
  | (at_builtin;refine wpList_copy_runI _ rfl _ _ 30 30 rfl _ _ rfl rfl (hcpB _ (fun _=>rfl) (fun _=>rfl) _ _ _) ?_))
 go_region_law_o (refine ho rfl _ _ 30 30 rfl (.slice (b7 ⟨w.heap.size,(i+1)*5,bI⟩) (n-i) (G-(i+1))) (.slice (b7 ⟨b,i*5,bI⟩) (n-i) (c-i)) (by simp[gn,h6]) (by simp[gn,h6]) (hcpB _ hF1 hF2 3 (G-(i+1)) (c-i)) ?_)
 go_wp2
 go_ret
 exact⟨rfl,rfl⟩
theorem DK(b:Nat):∀ (vs:List Value) (o:Nat) (w:e7),AG (fun x=>x=b) w (w.setCells b o vs)
 | [],_,w=>AG.refl _ _
 | v::r,o,w=>by
  rw[hY]
  have i:AG (fun x=>x=b) w (w.setCell ⟨b,o,bI⟩ v):=⟨rfl,rfl,rfl,by
   show w.heap.size<=(w.heap.modify b _).size;simp,fun x j g=>by
   show (w.heap.modify b _)[x]? = _
   rw[fI,if_neg (fun e=>g e.symm)]⟩
  exact i.trans (DK b r (o+1) (w.setCell ⟨b,o,bI⟩ v))
theorem DN(b:Nat):∀ (vs:List Value) (o:Nat) (w:e7) (arr:Array Value) (T:gv) (fz:Nat×Nat),w.heap[b]? = b7 (.cells arr T fz)->o+vs.length<=arr.size ->
  ∃ g,(w.setCells b o vs).heap[b]? = b7 (.cells g T fz)∧g.size=arr.size∧∀ j,g.getD j b'=if o<=j∧j<o+vs.length then vs.getD (j-o) b' else arr.getD j b'
 | [],o,w,arr,T,fz,h,_=>⟨arr,h,rfl,fun j=>by rw[if_neg (by rw[hV];omega)]⟩
 | v::r,o,w,arr,T,fz,h,p=>by
  have C:(w.setCell ⟨b,o,bI⟩ v).heap[b]? = b7 (.cells (arr.setIfInBounds o v) T fz):=by
   show (w.heap.modify b _)[b]? = _
   rw[fI,if_pos rfl,h];rfl
  simp only[e9] at p;obtain⟨g,a1,a2,I⟩:=DN b r (o+1) (w.setCell ⟨b,o,bI⟩ v) _ T fz C (by simp;omega);refine⟨g,a1,by rw[a2];simp,fun j=>?_⟩;rw[I]
  by_cases c:o=j
  ·subst c;rw[if_neg (by omega),if_pos (by simp)];have i:o<arr.size:=by omega
   simp[agD,e6,i]
  ·by_cases c2:o+1<=j∧j<o+1+r.length
   ·rw[if_pos c2,if_pos (by simp only[e9];omega),show j-o=(j-(o+1))+1 by omega,hP]
   ·rw[if_neg c2,if_neg (by simp only[e9];omega)];simp[agD,e6,c]
theorem YZ{S:Nat->Prop}{w:e7}{b cap:Nat}{els:List AV}(h:IK S w b cap 5 els)(hp:0<cap):∃ arr T,w.heap[b]? = b7 (.cells arr T (0,0))∧arr.size=cap*5 ∧
  ∃ cs:List Value,cs.length=els.length*5∧(∀ j,j<els.length*5->cs.getD j b'=arr.getD j b')∧(∀ j v,cs[j]? = b7 v->w.cell? ⟨b,j,bI⟩=b7 v)∧(∀ v∈cs,v.oneCell'=ga) ∧
   ∀ i j,i<els.length->j<5->VR S w (cs.getD (i*5+j) b') ((els.getD i .any).cells.getD j .any):=by
 obtain⟨arr,T,fz,J,C,hs,U⟩:=h.row hp
 have C:fz=(0,0):=by
  rcases C with e|⟨e,_⟩
  ·exact e
  ·exact absurd e (by decide)
 subst C;have P:=h.len;have ab:els.length*5<=arr.size:=by rw[hs];omega
 have o:∀ j,j<els.length*5->(arr.toList.take (els.length*5)).getD j b'=arr.getD j undef:=fun j g=>by
  rw[gdE,cc,if_pos g,agD,fA]
 have p:∀ i j,i<els.length->j<5->VR S w ((arr.toList.take (els.length*5)).getD (i*5+j) b') ((els.getD i .any).cells.getD j .any):=fun i j hi g=>by
  rw[o _ (by omega)];exact U i j hi g
 have I:arr.toList.length=arr.size:=by simp
 refine⟨arr,T,J,hs,arr.toList.take (els.length*5),by rw[bS,I];omega,o,fun j v g=>?_,fun v hm=>?_,p⟩
 ·rw[cc] at g;split at g
  ·simp only[hr,J];rw[fA] at g;rw[g];rfl
  ·cases g
 ·obtain⟨j,g,rfl⟩:=hO hm;have ac:j<els.length*5:=by rw[bS] at g;omega
  have R:j/5<els.length:=by omega
  have h2:j%5<5:=by omega
  have:=p (j/5) (j%5) R h2;rw[show j/5*5+j%5=j by omega] at this;rw[gdE,geE g] at this;refine VR.oneCell this ?_;obtain⟨c1,c2⟩:=h.cells _ R;generalize els.getD (j/5) .any=a at c1 c2 ⊢;unfold AV.atoms at c2;rw[hS] at c2;refine c2 _ ?_;have h3:j%5<a.cells.length:=by rw[c1];exact h2
  rw[gdE,geE h3];exact hR _
def put(els:List AV)(i:Nat)(x:AV):List AV:=els.take i++x::els.drop i
theorem My(els:List AV)(i:Nat)(x:AV):(put els i x).length=els.length+1:=by unfold put;simp;omega
theorem UF{els:List AV}{i:Nat}(hi:i<=els.length)(x:AV)(j:Nat):(put els i x).getD j .any=if j<i then els.getD j .any else if j=i then x else els.getD (j-1) .any:=by
 unfold put;have g:(els.take i).length=i:=by rw[bS];omega
 rw[gdE]
 by_cases c:j<i
 ·rw[if_pos c,ec (by omega),cc,if_pos c,gdE]
 ·rw[if_neg c,e8 (by omega),g]
  by_cases c2:j=i
  ·subst c2;simp
  ·rw[if_neg c2,show j-i=(j-1-i)+1 by omega,hI,ds,show i+(j-1-i)=j-1 by omega,gdE]
def TF(cs vs:List Value)(i j:Nat):Value:=if j<i*5 then cs.getD j b' else if j<(i+1)*5 then vs.getD (j-i*5) b' else cs.getD (j-5) b'
theorem Yf{S S':Nat->Prop}{w w':e7}{rb p:Nat}{els:List AV}{x:AV}{i:Nat}{cs vs:List Value}{o:Array Value}{T:gv}(hi:i<=els.length)
  (hx:x.cells.length=5∧x.atoms=ga) (he:∀ i,i<els.length->(els.getD i .any).cells.length=5∧(els.getD i .any).atoms=ga)
  (C:∀ i j,i<els.length->j<5->VR S w (cs.getD (i*5+j) b') ((els.getD i .any).cells.getD j .any)) (J:∀ j,j<5->VR S w (vs.getD j b') (x.cells.getD j .any))
  (g:AG S w w') (U:∀ b,b<w.heap.size->S' b->S b) (hh:w'.heap[rb]? = b7 (.cells o T (0,0))) (hs:o.size=p*5) (I:els.length+1<=p)
  (hc:∀ j,j<(els.length+1)*5->o.getD j b'=TF cs vs i j):IK S' w' rb p 5 (put els i x):=by
 refine⟨by decide,by rw[My];exact I,fun k P=>?_,fun _=>⟨o,T,(0,0),hh,.inl rfl,hs,fun k j P R=>?_⟩⟩
 ·rw[My] at P;rw[UF hi];split
  ·exact he k (by omega)
  ·split
   ·exact hx
   ·exact he (k-1) (by omega)
 ·rw[My] at P;rw[hc _ (by omega),UF hi];unfold TF
  by_cases c1:k<i
  ·rw[if_pos (by omega),if_pos c1];exact (C k j (by omega) R).mono g U
  ·rw[if_neg (by omega),if_neg c1]
   by_cases c2:k=i
   ·subst c2;rw[if_pos (by omega),if_pos rfl,show k*5+j-k*5=j by omega];exact (J j R).mono g U
   ·rw[if_neg (by omega),if_neg c2,show k*5+j-5=(k-1)*5+j by omega];exact (C (k-1) j (by omega) R).mono g U
theorem PN(cs:List Value)(a j:Nat):(cs.drop a).getD j b'=cs.getD (a+j) b':=by
 rw[gdE,ds,gdE]
theorem Qj{vargs:Array Value}(h:vargs.size=3):vargs = #[vargs.getD 0 b',vargs.getD 1 b',vargs.getD 2 b']:=by
 obtain⟨l⟩:=vargs
 match l,h with
 | [a,b,c],_=>rfl
set_option maxRecDepth 100000 in
theorem sound:CF b5 208 (II 5 56):=by
 refine⟨fun e=>gk e,fun F o w args vargs fa es ab eu=>⟨fun e=>gk e,?_⟩⟩;obtain⟨els,i,x,⟨fu,fs⟩,cb,rfl,e⟩:=eI eu;obtain⟨k,rfl⟩:∃ k:Nat,i=k:=⟨i.toNat,by omega⟩;have he:=hD (P:=b5) gu (by kernel_rfl) rfl;have h0:=GD ab (i:=0) (by simp);have h1:=GD ab (i:=1) (by simp);have h2:=GD ab (i:=2) (by simp);have a8:AK (AD 0) (BR 0 [bR 5 els,.int .i64 (k:Int),.fresh 5 [x]])=b7 ⟨5,els⟩:=by rw[Gw];rfl
 have a7:AK (AD 2) (BR 0 [bR 5 els,.int .i64 (k:Int),.fresh 5 [x]])=b7 ⟨5,[x]⟩:=by rw[Gw];rfl
 have J:IK (AS F o (BR 0 [bR 5 els,.int .i64 (k:Int),.fresh 5 [x]])) w (o.β (AD 0)) (o.cap (AD 0)) 5 els:=ab.home (AD 0) _ a8;have ae:IK (AS F o (BR 0 [bR 5 els,.int .i64 (k:Int),.fresh 5 [x]])) w (o.β (AD 2)) (o.cap (AD 2)) 5 [x]:=ab.home (AD 2) _ a7;have c7:0<o.cap (AD 0)->Ma o (BR 0 [bR 5 els,.int .i64 (k:Int),.fresh 5 [x]]) (AD 0):=fun h=>⟨⟨_,a8⟩,h⟩
 have d0:0<o.cap (AD 2):=by
  have:=ae.len;simp only[hK] at this;omega
 have ex:Ma o (BR 0 [bR 5 els,.int .i64 (k:Int),.fresh 5 [x]]) (AD 2):=⟨⟨_,a7⟩,d0⟩;have el:vargs.size=3:=es;rw[Qj el];generalize vargs.getD 0 b'=v0 at h0;generalize vargs.getD 1 b'=v1 at h1;generalize vargs.getD 2 b'=v2 at h2;obtain⟨fi,d5,aa⟩:=h0;rw[a8] at d5;cases d5;have aa:v0 = .slice (b7 ⟨o.β (AD 0),0,bI⟩) els.length (o.cap (AD 0))∨(o.cap (AD 0)=0∧v0 = .slice bI 0 0):=aa;obtain⟨ff,d4,cn⟩:=h2;rw[a7] at d4;cases d4;have h1:VR _ w v1 (.int .i64 (k:Int)):=h1;cases h1
 have RA:v2 = .slice (b7 ⟨o.β (AD 2),0,bI⟩) 1 (o.cap (AD 2)):=by
  rcases cn with e|⟨e,_⟩
  ·exact e
  ·omega
 subst RA;have hk:k<=els.length:=by omega
 have b9:els.length+1<=9223372036854775807:=by omega
 obtain⟨ej,T2,dz,fd,vs,vl,e4,cm,bo,cf⟩:=YZ ae d0;have vl:vs.length=5:=by simpa using vl
 have cf:∀ j,j<5->VR _ w (vs.getD j b') (x.cells.getD j .any):=fun j U=>by
  have:=cf 0 j (by simp) U;rw[iI,cL] at this;exact this
 have hx:x.cells.length=5∧x.atoms=true:=ae.cells 0 (by simp);have bs:∀ j v,vs[j]? = b7 v->w.cell? ⟨o.β (AD 2),0+j,bI⟩=b7 v:=fun j v h=>by rw[cL];exact cm j v h
 have ev:0<o.cap (AD 0)->o.β (AD 2)≠o.β (AD 0):=fun h e=>by
  have:=UL (ab.inj _ _ ex (c7 h) e);omega
 have b4:∀ (cs:List Value) (rb ac:Nat) (w':e7) (C:Array Value) (T:gv),(∀ i j,i<els.length->j<5->VR (AS F o (BR 0 [bR 5 els,.int .i64 (k:Int),.fresh 5 [x]])) w (cs.getD (i*5+j) b') ((els.getD i .any).cells.getD j .any)) ->
   w'.heap[rb]? = b7 (.cells C T (0,0))->C.size=ac*5->els.length+1<=ac->(∀ j,j<(els.length+1)*5->C.getD j b'=TF cs vs k j) ->
   AG (fun b=>∃ k',Ma o (BR 0 [bR 5 els,.int .i64 (k:Int),.fresh 5 [x]]) k'∧o.β k'=b) w w'->(w.heap.size<=rb∨∃ k',Ma o (BR 0 [bR 5 els,.int .i64 (k:Int),.fresh 5 [x]]) k'∧o.β k'=rb)->¬ F rb ->
   ∃ v g ob κ,(Ending.returned (.slice (b7 ⟨rb,0,bI⟩) (els.length+1) ac)) = .returned v∧bu F o [bR 5 els,.int .i64 (k:Int),.fresh 5 [x]] (II 5 56).modes w v w' ((II 5 56).F [bR 5 els,.int .i64 (k:Int),.fresh 5 [x]]).r ((II 5 56).F [bR 5 els,.int .i64 (k:Int),.fresh 5 [x]]).outs g ob κ:=by
  intro cs rb ac w' C T e2 c8 ct d6 hc a4 hio ew;have hF:((II 5 56).F [bR 5 els,.int .i64 (k:Int),.fresh 5 [x]])=⟨ga,.fresh 5 (put els k x),[.any,.any,.any]⟩:=e;rw[hF]
  have b6:∀ j:Nat,(II 5 56).modes[j]? ≠ b7 Md.io:=fun j=>by
   show ([.mov,.bor,.mov]:List Md)[j]? ≠ b7 Md.io
   match j with
   | 0=>intro h;cases h
   | 1=>intro h;cases h
   | 2=>intro h;cases h
   | j+3=>simp
  have only:∀ q h,AK q [(0,(⟨5,put els k x⟩:Hm))]=b7 h->q=0∧h=⟨5,put els k x⟩:=by
   intro q h hg;simp only[AK,AM,beq_iff_eq] at hg;split at hg
   ·rename_i e;cases hg;exact⟨e.symm,rfl⟩
   ·cases hg
  refine⟨_,⟨fun _=>rb,fun _=>ac⟩,[(0,⟨5,put els k x⟩)],fun _=>0,rfl,⟨a4,fun q h hg=>?_,fun q q' a b _=>?_,fun q a=>ew,fun q a=>hio,?_,fun i j hi U _=>?_,fun i j _ U=>absurd U (b6 j),fun j U=>absurd U (b6 j)⟩⟩
  ·obtain⟨rfl,rfl⟩:=only q h hg;refine Yf hk hx J.cells e2 cf (a4.mono fun b _ hb=>.inr hb) (fun b hb et=>?_) c8 ct d6 hc;rcases et with h|⟨_,_,h⟩
   ·exact .inl h
   ·have h:rb=b:=h;subst h;rcases hio with h|h
    ·omega
    ·exact .inr h
  ·obtain⟨⟨h,hg⟩,_⟩:=a;obtain⟨⟨h',e1⟩,_⟩:=b;rw[(only q h hg).1,(only q' h' e1).1]
  ·exact⟨by simp[AK],.inl (by simp only[My])⟩
  ·rw[hi.1,U.1]
 unfold DD;rw[he];show hy _ _ _ _ _;have av:¬ F w.heap.size:=fun h=>absurd (ab.fb _ h) (ix _)
 have dc:els.length+1<=dw w (els.length+1) (o.cap (AD 0)) 89:=hB w _ _ _
 have atEnd:∀ (base:Option Addr) (cs:List Value),v0 = .slice base els.length (o.cap (AD 0))->k=els.length->o.cap (AD 0)<els.length+1->(base=bI->els.length=0)->cs.length=els.length*5 ->
   (∀ a,base=b7 a->∀ j v,cs[j]? = b7 v->w.cell? (a.add j)=b7 v) ->
   (∀ i j,i<els.length->j<5->VR (AS F o (BR 0 [bR 5 els,.int .i64 (k:Int),.fresh 5 [x]])) w (cs.getD (i*5+j) b') ((els.getD i .any).cells.getD j .any)) ->
   hy b5 208 #[v0,.int .i64 (k:Int),.slice (b7 ⟨o.β (AD 2),0,bI⟩) 1 (o.cap (AD 2))] w fun e' w'=>∃ v g ob κ,e' = .returned v∧bu F o [bR 5 els,.int .i64 (k:Int),.fresh 5 [x]] (II 5 56).modes w v w' ((II 5 56).F [bR 5 els,.int .i64 (k:Int),.fresh 5 [x]]).r ((II 5 56).F [bR 5 els,.int .i64 (k:Int),.fresh 5 [x]]).outs g ob κ:=by
  intro base cs en a9 I d1 cl R ay;subst en;have au:=J.len;have c9:(k:Int)=(els.length:Int):=by omega
  have p:=gP base els.length (o.cap (AD 0)) (o.β (AD 2)) 0 (o.cap (AD 2)) cs vs w au I cb cl vl d1 R bs bo;rw[← c9] at p;refine p.mono fun e' w' ⟨a1,a2⟩=>?_
  rw[a1];refine b4 cs w.heap.size _ w' ((cs++vs).toArray++a' (bN (.agg #[.int .i64 0,.string ⟨#[]⟩,.string ⟨#[]⟩,.int .i64 0,.bool dX])) (dw w (els.length+1) (o.cap (AD 0)) 89-(els.length+1))) 89 ay ?_ ?_ dc (fun j U=>?_) ?_ (.inl (hA _)) av
  ·rw[a2];exact h9 w.drew _
  ·rw[bX,LG,cA,gj,cl,vl];omega
  ·unfold TF;rw[agD,df (by rw[cA,gj,cl,vl];omega),f']
   by_cases c:j<k*5
   ·rw[if_pos c,ec (by omega),gdE]
   ·rw[if_neg c,if_pos (by omega),e8 (by omega),gdE,cl,a9]
  ·rw[a2];exact (AG.drew _ w).trans (AG.alloc _ _ _)
 rcases hQ (o.cap (AD 0)) with hz|hp
 ·have au:=J.len;have bv:els.length=0:=by omega
  have d7:∀ i j,i<els.length->j<5->VR (AS F o (BR 0 [bR 5 els,.int .i64 (k:Int),.fresh 5 [x]])) w (([]:List Value).getD (i*5+j) b') ((els.getD i .any).cells.getD j .any):=fun i j hi _=>by omega
  rcases aa with e0|⟨_,e0⟩
  ·exact atEnd (b7 ⟨o.β (AD 0),0,bI⟩) [] e0 (by omega) (by omega) (fun h=>by cases h) (by simp[bv]) (fun _ _ j v h=>by simp at h) d7
  ·exact atEnd bI [] (by rw[e0,bv,hz]) (by omega) (by omega) (fun _=>bv) (by simp[bv]) (fun _ h=>by cases h) d7
 ·obtain⟨ad,T0,a6,c5,cs,cl,cd,R,d9,ay⟩:=YZ J hp;have au:=J.len
  have e0:v0 = .slice (b7 ⟨o.β (AD 0),0,bI⟩) els.length (o.cap (AD 0)):=by
   rcases aa with e|⟨e,_⟩
   ·exact e
   ·omega
  have a3:∀ j,j<ad.size->(w.cell? ⟨o.β (AD 0),j,bI⟩).isSome=true:=fun j U=>by
   simp only[hr,a6];rw[ea U];rfl
  have be:∀ j,w.frozen? ⟨o.β (AD 0),j,bI⟩=false:=fun j=>by simp[h4,a6]
  have bb:∀ j,w.frozen? ⟨o.β (AD 2),j,bI⟩=false:=fun j=>by simp[h4,dz]
  have aj:∃ k',Ma o (BR 0 [bR 5 els,.int .i64 (k:Int),.fresh 5 [x]]) k'∧o.β k'=o.β (AD 0):=⟨_,c7 hp,rfl⟩;have b8:¬ F (o.β (AD 0)):=ab.nF _ (c7 hp)
  by_cases I:els.length+1<=o.cap (AD 0)
  ·have e5:(els.length+1)*5<=ad.size:=by rw[c5];omega
   by_cases a9:k=els.length
   ·have c9:(k:Int)=(els.length:Int):=by omega
    have p:=gO (o.β (AD 0)) els.length (o.cap (AD 0)) (o.β (AD 2)) 0 (o.cap (AD 2)) vs w I b9 vl (fun j U=>a3 _ (by omega)) (fun j U=>be _) bs bo;rw[← c9,← e0] at p;refine p.mono fun e' w' ⟨a1,a2⟩=>?_
    rw[a1];obtain⟨C,b1,b2,b3⟩:=DN (o.β (AD 0)) vs (els.length*5) w ad T0 (0,0) a6 (by omega);refine b4 cs (o.β (AD 0)) _ w' C T0 ay (by rw[a2];exact b1) (by rw[b2,c5]) I (fun j U=>?_) ?_ (.inr aj) b8
    ·rw[b3];unfold TF
     by_cases c:j<k*5
     ·rw[if_neg (by omega),if_pos c,cd j (by omega)]
     ·rw[if_pos (by omega),if_neg c,if_pos (by omega),a9]
    ·rw[a2];exact (DK _ _ _ _).mono fun b _ hb=>by subst hb;exact aj
   ·have c6:k<els.length:=by omega
    have p:=shift (o.β (AD 0)) els.length (o.cap (AD 0)) k (o.β (AD 2)) 0 (o.cap (AD 2)) cs vs w c6 I b9 (ev hp) cl vl R (fun j U=>a3 _ (by omega)) (fun j U=>be _) bs d9 bo
     T2 T0 ej.size ad.size (by simp[hn,dz]) (by simp[hn,a6]) (by omega) (bb _) (bb _)
    rw[← e0] at p;refine p.mono fun e' w' ⟨a1,a2⟩=>?_
    rw[a1];have dl:(cs.drop (k*5)).length=(els.length-k)*5:=by rw[dT,cl,eL]
    obtain⟨ax,b1,b2,b3⟩:=DN (o.β (AD 0)) (cs.drop (k*5)) ((k+1)*5) w.drew ad T0 (0,0) a6 (by rw[dl];omega);obtain⟨C,c1,c2,c3⟩:=DN (o.β (AD 0)) vs (k*5) _ ax T0 (0,0) b1 (by omega);refine b4 cs (o.β (AD 0)) _ w' C T0 ay (by rw[a2];exact c1) (by rw[c2,b2,c5]) I (fun j U=>?_) ?_ (.inr aj) b8
    ·rw[c3,b3,dl];unfold TF
     by_cases c:j<k*5
     ·rw[if_neg (by omega),if_neg (by omega),if_pos c,cd j (by omega)]
     ·rw[if_neg c]
      by_cases c':j<(k+1)*5
      ·rw[if_pos (by omega),if_pos c']
      ·rw[if_neg (by omega),if_pos (by omega),if_neg c',PN]
       congr 1;omega
    ·rw[a2];refine AG.mono (S:=fun x=>x=o.β (AD 0)) ?_ fun b _ hb=>by subst hb;exact aj
     exact ((AG.drew _ w).trans (DK _ _ _ _)).trans (DK _ _ _ _)
  ·by_cases a9:k=els.length
   ·exact atEnd (b7 ⟨o.β (AD 0),0,bI⟩) cs e0 a9 (by omega) (fun h=>by cases h) cl (fun a h j v U=>by
     cases h
     rw[ca,cL];exact R j v U) ay
   ·have c6:k<els.length:=by omega
    have p:=grow (o.β (AD 0)) els.length (o.cap (AD 0)) k (o.β (AD 2)) 0 (o.cap (AD 2)) cs vs w c6 au (by omega) cb cl vl R bs d9 bo;rw[← e0] at p;refine p.mono fun e' w' ⟨a1,a2⟩=>?_
    rw[a1];have dl:(cs.drop (k*5)).length=(els.length-k)*5:=by rw[dT,cl,eL]
    generalize hG:dw w (els.length+1) (o.cap (AD 0)) 89=G at dc a2 ⊢
    have ao:((cs.take (k*5)).toArray++a' (bN (.agg #[.int .i64 0,.string ⟨#[]⟩,.string ⟨#[]⟩,.int .i64 0,.bool dX])) (els.length+1-k)++a' (bN (.agg #[.int .i64 0,.string ⟨#[]⟩,.string ⟨#[]⟩,.int .i64 0,.bool dX])) (G-(els.length+1))).size=G*5:=by
     rw[bX,bX,LG,LG,cA,bS,cl];omega
    have a5:∀ j,j<k*5->((cs.take (k*5)).toArray++a' (bN (.agg #[.int .i64 0,.string ⟨#[]⟩,.string ⟨#[]⟩,.int .i64 0,.bool dX])) (els.length+1-k)++a' (bN (.agg #[.int .i64 0,.string ⟨#[]⟩,.string ⟨#[]⟩,.int .i64 0,.bool dX])) (G-(els.length+1))).getD j b'=cs.getD j undef:=fun j U=>by
     have h1:j<(cs.take (k*5)).toArray.size:=by rw[cA,bS,cl];omega
     rw[agD,df (by rw[bX];omega),df h1,f',cc,if_pos U,gdE]
    generalize ((cs.take (k*5)).toArray++a' (bN (.agg #[.int .i64 0,.string ⟨#[]⟩,.string ⟨#[]⟩,.int .i64 0,.bool dX])) (els.length+1-k)++a' (bN (.agg #[.int .i64 0,.string ⟨#[]⟩,.string ⟨#[]⟩,.int .i64 0,.bool dX])) (G-(els.length+1)))=ROW at a2 ao a5;have b0:((w.alloc (.cells ROW 89)).drew).heap[w.heap.size]? = b7 (.cells ROW 89 (0,0)):=h9 w _;obtain⟨ax,b1,b2,b3⟩:=DN w.heap.size vs (k*5) _ ROW 89 (0,0) b0 (by rw[ao];omega);have e3:(((w.alloc (.cells ROW 89)).drew.setCells w.heap.size (k*5) vs).drew).heap[w.heap.size]? = b7 (.cells ax 89 (0,0)):=b1;obtain⟨C,c1,c2,c3⟩:=DN w.heap.size (cs.drop (k*5)) ((k+1)*5) _ ax 89 (0,0) e3 (by rw[dl,b2,ao];omega);refine b4 cs w.heap.size _ w' C 89 ay (by rw[a2];exact c1) (by rw[c2,b2,ao]) dc (fun j U=>?_) ?_ (.inl (hA _)) av
    ·rw[c3,b3,dl];unfold TF
     by_cases c:j<k*5
     ·rw[if_neg (by omega),if_neg (by omega),if_pos c,a5 j c]
     ·rw[if_neg c]
      by_cases c':j<(k+1)*5
      ·rw[if_neg (by omega),if_pos (by omega),if_pos c']
      ·rw[if_pos (by omega),if_neg c',PN]
       congr 1;omega
    ·rw[a2];refine AG.mono (S:=fun x=>x=w.heap.size) ?_ fun b hb f0=>by omega
     exact ((((AG.alloc _ w _).trans (AG.drew _ _)).trans (DK _ _ _ _)).trans (AG.drew _ _)).trans (DK _ _ _ _)
end Go.Proofs.YtegmpdmpgmpiaaaGreatDoor.insEstimate
namespace Go.Proofs.YtegmpdmpgmpiaaaGreatDoor
open Go Go.RowKit
def Ge:Ar:=II 5 56
theorem bC:Ge.modes=[.mov,.bor,.mov]:=rfl
theorem Xc:Ge.flat=false:=rfl
attribute [go_sem] bC Xc
theorem QX{α:Type}(f:α->AV){l:List α}{i:Int}{v g:List α}(h:gE 56 l i v=b7 g):Ge.F [.fresh 5 (hq f l),.int .i64 i,.fresh 5 (hq f v)]=⟨ga,.fresh 5 (hq f g),[.any,.any,.any]⟩:=mN 5 f h
theorem XQ:CF b5 208 Ge:=insEstimate.sound
end Go.Proofs.YtegmpdmpgmpiaaaGreatDoor
namespace Go.Proofs.YtegmpdmpgmpiaaaGreatDoor.insStar
open Go Go.RowKit Go.Lib Go.Proofs.YtegmpdmpgmpiaaaGreatDoor
theorem uS:b5.underlying 29=b7 (.slice 86):=by kernel_rfl
theorem iE:(b5.info? 86).map (fun i=>(i.zero,i.size,i.bytes))=b7 (b7 (.agg #[.string ⟨#[]⟩,.int .i64 0,.int .i64 0,.int .i64 0,.int .i64 0]),5,48):=by kernel_rfl
theorem mixed:b5.follows Departure.mixedOrders=ga:=by kernel_rfl
theorem LG(k:Nat):(a' (bN (.agg #[.string ⟨#[]⟩,.int .i64 0,.int .i64 0,.int .i64 0,.int .i64 0])) k).size=k*5:=by
 simp[a',bN]
theorem KD(w:e7)(ty:gv)(b o p I:Nat)(a:Addr)(g i m:Nat)(cs:List Value)
  (hm:m=Nat.min g p) (hl:cs.length=m*5)
  (C:∀ j v,cs[j]? = b7 v->w.cell? (a.add j)=b7 v) (hc:∀ j,j<cs.length->(w.cell? ⟨b,o+j,bI⟩).isSome=ga) (hf:∀ j,j<cs.length->w.frozen? ⟨b,o+j,bI⟩=dX) (h1:∀ v∈cs,v.oneCell'=ga) :
  (db #[29,29] ty #[.slice (b7 ⟨b,o,bI⟩) p I,.slice (b7 a) g i]).run b5 w = .ok (hC m) (w.setCells b o cs):=by
 have R:=hW (P:=b5) b o cs 0 w (by simpa using hc) (by simpa using hf) h1;obtain⟨i0,U,ab,J,aa⟩:=gf iE;have T:=d' (P:=b5) w 5 m a g i cs hl C;simp[db,run_underlying uS,hT,sizeOf,typeInfo,U,J,← hm,T,R]
theorem xG(w:e7)(i g U b o lb cb:Nat)(C:i≠b)(tA tB:gv)(p j:Nat)(J:w.shape? i=b7 (tA,p))(I:w.shape? b=b7 (tB,j))(P:j≠0)
  (T:w.frozen? ⟨i,g,bI⟩=dX) (R:w.frozen? ⟨i,p,bI⟩=dX) :
  (hX 272 #[.slice (b7 ⟨i,g,bI⟩) 1 U,.slice (b7 ⟨b,o,bI⟩) lb cb]).run b5 w = .ok (.value (.bool dX)) w:=by
 rw[ic Tryz.func272 (by kernel_rfl) (by kernel_rfl) (by kernel_rfl) (e:=Extern.SlicesOverlaps.overlaps #[29,29] #[4]) (by kernel_rfl),
  hM w 29 4 86 uS 5 Tryz.sizeOf86 ⟨i,g,bI⟩ ⟨b,o,bI⟩ 1 U lb cb C tA tB p j J I P T R]
 rfl
set_option maxRecDepth 100000 in
theorem shift(b n c i vb voff vc:Nat)(cs vs:List Value)(w:e7)(hi:i<n)(hroom:n+1<=c)(hn63:n+1<=9223372036854775807)(hvb:vb≠b)
  (hcl:cs.length=n*5) (hvl:vs.length=5)
  (hcs:∀ j v,cs[j]? = b7 v->w.cell? ⟨b,j,bI⟩=b7 v) (hsp:∀ j,j<(n+1)*5->(w.cell? ⟨b,j,bI⟩).isSome=ga) (hfz:∀ j,j<(n+1)*5->w.frozen? ⟨b,j,bI⟩=dX)
  (hvs:∀ j v,vs[j]? = b7 v->w.cell? ⟨vb,voff+j,bI⟩=b7 v) (h1c:∀ v∈cs,v.oneCell'=ga) (h1v:∀ v∈vs,v.oneCell'=ga)
  (tA tB:gv) (kA kB:Nat) (hsa:w.shape? vb=b7 (tA,kA)) (hsb:w.shape? b=b7 (tB,kB)) (hkB:kB≠0) (hfa:w.frozen? ⟨vb,voff,bI⟩=dX) (hfe:w.frozen? ⟨vb,kA,bI⟩=dX) :
  hy b5 247 #[.slice (b7 ⟨b,0,bI⟩) n c,.int .i64 i,.slice (b7 ⟨vb,voff,bI⟩) 1 vc] w fun e w'=>
   e = .returned (.slice (b7 ⟨b,0,bI⟩) (n+1) c)∧w'=(w.drew.setCells b ((i+1)*5) (cs.drop (i*5))).setCells b (i*5) vs:=by
 have mixed:=mixed;have hz2:¬ ((i:Int)=(n:Int)):=by omega
 have hov:∀ lb cb,(hX 272 #[.slice (b7 ⟨vb,voff,bI⟩) 1 vc,.slice (b7 ⟨b,(i+1)*5,bI⟩) lb cb]).run b5 w = .ok (.value (.bool dX)) w:=fun lb cb=>xG w vb voff vc b ((i+1)*5) lb cb hvb tA tB kA kB hsa hsb hkB hfa hfe
 have hdl:(cs.drop (i*5)).length=(n-i)*5:=by rw[dT,hcl,eL]
 have hw1:i64.wrap ((i:Int)+1)=(i:Int)+1:=by rw[cS];omega
 have hw2:i64.wrap ((n:Int)+1)=(n:Int)+1:=by rw[cS];omega
 have hb1:(0:Int)<=(i:Int)+1:=by omega
 have hin:i<=n:=by omega
 have htn:((i:Int)+1).toNat=i+1:=by omega
 have hb2:¬ (c=i+1):=by omega
 have hb3:(i:Int)<=(n:Int)+1:=by omega
 have hb4:¬ (c=i):=by omega
 have hb5:¬ ((c:Int)<(n:Int)+1):=by omega
 have hcp1:∀ ty dc sc,(db #[29,29] ty #[.slice (b7 ⟨b,(i+1)*5,bI⟩) (n-i) dc,.slice (b7 ⟨b,i*5,bI⟩) (n+1-i) sc]).run b5 w.drew = .ok (hC ((n-i:Nat):Int)) (w.drew.setCells b ((i+1)*5) (cs.drop (i*5))):=fun ty dc sc=>
  KD w.drew ty b ((i+1)*5) (n-i) dc ⟨b,i*5,bI⟩ (n+1-i) sc (n-i) (cs.drop (i*5)) (by simp only[fm];split<;>omega) hdl
   (fun j v hj=>by rw[ca];exact hcs (i*5+j) v (by rwa [ds] at hj))
   (fun j hj=>hsp _ (by rw[hdl] at hj;omega)) (fun j hj=>hfz _ (by rw[hdl] at hj;omega)) (fun v hv=>h1c v (gb hv))
 obtain⟨W1,hW1⟩:∃ W1,W1=w.drew.setCells b ((i+1)*5) (cs.drop (i*5)):=⟨_,rfl⟩
 have hsp1:∀ k,k<(n+1)*5->(W1.cell? ⟨b,k,bI⟩).isSome=true:=fun k hk=>by
  rw[hW1];exact h5 b (cs.drop (i*5)) ((i+1)*5) w.drew (fun j hj=>hsp ((i+1)*5+j) (by rw[hdl] at hj;omega)) k (hsp k hk)
 have hcp2:∀ (W:e7),(∀ x,W.cell? x=W1.cell? x)->(∀ x,W.frozen? x=W1.frozen? x)->∀ ty dc,(db #[29,29] ty #[.slice (b7 ⟨b,i*5,bI⟩) (n+1-i) dc,.slice (b7 ⟨vb,voff,bI⟩) 1 vc]).run b5 W = .ok (hC 1) (W.setCells b (i*5) vs):=fun W hWc hWf ty dc=>
  KD W ty b (i*5) (n+1-i) dc ⟨vb,voff,bI⟩ 1 vc 1 vs (by simp only[fm];split<;>omega) (by rw[hvl])
   (fun j v hj=>by
    rw[ca,hWc,hW1,ek b _ _ _ _ (fun h _=>absurd h hvb)];exact hvs j v hj)
   (fun j hj=>by rw[hWc];exact hsp1 _ (by omega)) (fun j hj=>by rw[hWf,hW1,fx];exact hfz _ (by omega)) h1v
 rw[← hW1] at hcp1
 go_enter gr,h7
 go_wp2_with (simp only[hov])
 go_region_law_o (refine ho rfl _ _ 29 29 rfl _ _ (by simp[gn,h6]) (by simp[gn,h6]) (hcp1 _ _ _) ?_)
 go_wp2_with (at_builtin;refine wpList_copy_runI _ rfl _ _ 29 29 rfl _ _ rfl rfl (hcp2 _ (fun _=>rfl) (fun _=>rfl) _ _) ?_)
 go_ret
 first|exact⟨rfl,rfl⟩|exact⟨rfl,by rw[hW1]⟩
set_option maxRecDepth 100000 in
theorem gO(b n c vb voff vc:Nat)(vs:List Value)(w:e7)(hroom:n+1<=c)(hn63:n+1<=9223372036854775807)(hvl:vs.length=5)
  (hsp:∀ j,j<5->(w.cell? ⟨b,n*5+j,bI⟩).isSome=ga) (hfz:∀ j,j<5->w.frozen? ⟨b,n*5+j,bI⟩=dX)
  (hvs:∀ j v,vs[j]? = b7 v->w.cell? ⟨vb,voff+j,bI⟩=b7 v) (h1v:∀ v∈vs,v.oneCell'=ga) :
  hy b5 247 #[.slice (b7 ⟨b,0,bI⟩) n c,.int .i64 n,.slice (b7 ⟨vb,voff,bI⟩) 1 vc] w fun e w'=>
   e = .returned (.slice (b7 ⟨b,0,bI⟩) (n+1) c)∧w'=w.setCells b (n*5) vs:=by
 obtain⟨i0,hi0,hz0,hzs,hzb⟩:=gf iE
 have hsrc:iB b5 i0.size 29 (.slice (b7 ⟨vb,voff,bI⟩) 1 vc) 1 vs w:=by
  rw[hzs];exact gw w uS ⟨vb,voff,bI⟩ 1 vc vs (by omega) (fun j u hj=>by rw[ca];exact hvs j u hj) h1v
 have hrun:∀ ty,(ef #[29,29] ty #[.slice (b7 ⟨b,0,bI⟩) n c,.slice (b7 ⟨vb,voff,bI⟩) 1 vc]).run b5 w = .ok (.slice (b7 ⟨b,0,bI⟩) (n+1) c) (w.setCells b (n*5) vs):=fun ty=>by
  have h:=ih w 29 29 ty 86 i0 uS hi0 b 0 n c (.slice (b7 ⟨vb,voff,bI⟩) 1 vc) 1 vs hsrc hroom (fun j hj=>by rw[hzs,cL];exact hsp j (by omega)) (fun j hj=>by rw[hzs,cL];exact hfz j (by omega));rw[hzs,cL] at h;exact h
 have hn63:¬ ((n:Int)<0):=by omega
 go_enter gr,h7
 go_wp2_with (at_builtin;refine cI _ rfl _ _ _ _ rfl _ _ rfl rfl _ _ (hrun _) ?_)
 go_ret
 exact⟨rfl,rfl⟩
set_option maxRecDepth 100000 in
theorem gP(base:Option Addr)(n c vb voff vc:Nat)(cs vs:List Value)(w:e7)(hnc:n<=c)(hroom:c<n+1)(hbig:(n+1)*48<=140737488355328)
  (hcl:cs.length=n*5) (hvl:vs.length=5) (hnil:base=bI->n=0)
  (hcs:∀ a,base=b7 a->∀ j v,cs[j]? = b7 v->w.cell? (a.add j)=b7 v)
  (hvs:∀ j v,vs[j]? = b7 v->w.cell? ⟨vb,voff+j,bI⟩=b7 v) (h1v:∀ v∈vs,v.oneCell'=ga) :
  hy b5 247 #[.slice base n c,.int .i64 n,.slice (b7 ⟨vb,voff,bI⟩) 1 vc] w fun e w'=>
   e = .returned (.slice (b7 ⟨w.heap.size,0,bI⟩) (n+1) (dw w (n+1) c 86)) ∧
   w'=w.drew.alloc (.cells ((cs++vs).toArray++a' (bN (.agg #[.string ⟨#[]⟩,.int .i64 0,.int .i64 0,.int .i64 0,.int .i64 0])) (dw w (n+1) c 86-(n+1))) 86):=by
 obtain⟨i0,hi0,hz0,hzs,hzb⟩:=gf iE
 have hsrc:iB b5 i0.size 29 (.slice (b7 ⟨vb,voff,bI⟩) 1 vc) 1 vs w:=by
  rw[hzs];exact gw w uS ⟨vb,voff,bI⟩ 1 vc vs (by omega) (fun j u hj=>by rw[ca];exact hvs j u hj) h1v
 have hold:(gg i0.size n (.slice base n c)).run b5 w.drew = .ok cs.toArray w.drew:=by
  rw[hzs];cases base with
  | none=>
   have h0:=hnil rfl;subst h0;rw[hH.1 (show cs.length=0 by omega)];exact hZ w.drew 5 0 0 c
  | some a=>exact d' w.drew 5 n a n c cs hcl (fun j v hj=>hcs a rfl j v hj)
 have hrun:∀ ty,(ef #[29,29] ty #[.slice base n c,.slice (b7 ⟨vb,voff,bI⟩) 1 vc]).run b5 w=_:=fun ty=>
  ik w 29 29 ty 86 i0 _ uS hi0 hz0 base n c cs hold _ 1 vs hsrc hroom (by omega) (by rw[hzb];exact ha hroom hbig)
 go_enter gr,h7
 cases base with
 | none=>
  have h0:=hnil rfl;subst h0
  go_wp2_with (at_builtin;refine cI _ rfl _ _ _ _ rfl _ _ rfl rfl _ _ (hrun _) ?_)
  go_ret
  exact⟨rfl,rfl⟩
 | some a=>
  obtain⟨ab,ao,asp⟩:=a
  go_wp2_with (at_builtin;refine cI _ rfl _ _ _ _ rfl _ _ rfl rfl _ _ (hrun _) ?_)
  all_goals (go_ret;exact⟨rfl,rfl⟩)
set_option maxRecDepth 100000 in
theorem grow(b n c i vb voff vc:Nat)(cs vs:List Value)(w:e7)(hi:i<n)(hnc:n<=c)(hroom:c<n+1)(hbig:(n+1)*48<=140737488355328)
  (hcl:cs.length=n*5) (hvl:vs.length=5)
  (hcs:∀ j v,cs[j]? = b7 v->w.cell? ⟨b,j,bI⟩=b7 v)
  (hvs:∀ j v,vs[j]? = b7 v->w.cell? ⟨vb,voff+j,bI⟩=b7 v) (h1c:∀ v∈cs,v.oneCell'=ga) (h1v:∀ v∈vs,v.oneCell'=ga) :
  hy b5 247 #[.slice (b7 ⟨b,0,bI⟩) n c,.int .i64 i,.slice (b7 ⟨vb,voff,bI⟩) 1 vc] w fun e w'=>
   e = .returned (.slice (b7 ⟨w.heap.size,0,bI⟩) (n+1) (dw w (n+1) c 86)) ∧
   w'=(((w.alloc (.cells ((cs.take (i*5)).toArray++a' (bN (.agg #[.string ⟨#[]⟩,.int .i64 0,.int .i64 0,.int .i64 0,.int .i64 0])) (n+1-i)++a' (bN (.agg #[.string ⟨#[]⟩,.int .i64 0,.int .i64 0,.int .i64 0,.int .i64 0])) (dw w (n+1) c 86-(n+1))) 86)).drew.setCells w.heap.size (i*5) vs).drew).setCells w.heap.size ((i+1)*5) (cs.drop (i*5)):=by
 have mixed:=mixed;obtain⟨i0,hi0,hz0,hzs,hzb⟩:=gf iE;have hz2:¬ ((i:Int)=(n:Int)):=by omega
 have hz3:(c:Int)<(n:Int)+1:=by omega
 have hbw:b<w.heap.size:=g' (hcs 0 _ (geE (by omega)));have hvw:vb<w.heap.size:=g' (hvs 0 _ (geE (by omega)));have hkk:(n:Int)+1-(i:Int)=((n+1-i:Nat):Int):=by omega
 have hik:i+(n+1-i)=n+1:=by omega
 have hold:(gg i0.size i (.slice (b7 ⟨b,0,bI⟩) i c)).run b5 w.drew = .ok (cs.take (i*5)).toArray w.drew:=by
  rw[hzs]
  exact d' w.drew 5 i ⟨b,0,bI⟩ i c (cs.take (i*5)) (by rw[bS];omega) (fun j v hj=>by
   rw[ca,cL];rw[cc] at hj;split at hj
   ·exact hcs j v hj
   ·cases hj)
 have hrz:∀ ty,(ef #[29,3] ty #[.slice (b7 ⟨b,0,bI⟩) i c,.int .i64 ((n:Int)+1-(i:Int))]).run b5 w =
   .ok (.slice (b7 ⟨w.heap.size,0,bI⟩) (n+1) (dw w (n+1) c 86)) (w.drew.alloc (.cells ((cs.take (i*5)).toArray++a' (bN (.agg #[.string ⟨#[]⟩,.int .i64 0,.int .i64 0,.int .i64 0,.int .i64 0])) (n+1-i)++a' (bN (.agg #[.string ⟨#[]⟩,.int .i64 0,.int .i64 0,.int .i64 0,.int .i64 0])) (dw w (n+1) c 86-(n+1))) 86)):=fun ty=>by
  have h:=hE w 29 3 ty 86 i0 _ .i64 .i64 uS (by kernel_rfl) hi0 hz0 (b7 ⟨b,0,bI⟩) i c (cs.take (i*5)) hold (n+1-i) (by omega) (by omega) (by omega) (by omega) (by rw[hzb];omega) (by rw[hzb,hik];exact ha hroom hbig);rw[hik] at h;rw[hkk];exact h
 obtain⟨G,hG⟩:∃ G,G=dw w (n+1) c 86:=⟨_,rfl⟩;obtain⟨ROW,hROW⟩:∃ ROW:Array Value,ROW=(cs.take (i*5)).toArray++a' (bN (.agg #[.string ⟨#[]⟩,.int .i64 0,.int .i64 0,.int .i64 0,.int .i64 0])) (n+1-i)++a' (bN (.agg #[.string ⟨#[]⟩,.int .i64 0,.int .i64 0,.int .i64 0,.int .i64 0])) (G-(n+1)):=⟨_,rfl⟩;rw[← hG] at hrz ⊢;rw[← hROW] at hrz ⊢;have hzl:∀ k,(a' (bN (.agg #[.string ⟨#[]⟩,.int .i64 0,.int .i64 0,.int .i64 0,.int .i64 0])) k).size=k*5:=LG
 have hRl:(n+1)*5<=ROW.size:=by
  rw[hROW,bX,bX,hzl,hzl,cA,bS];omega
 obtain⟨W1,hW1⟩:∃ W1,W1=w.drew.alloc (.cells ROW 86):=⟨_,rfl⟩;rw[← hW1] at hrz
 have hN:∀ j,j<(n+1)*5->(W1.cell? ⟨w.heap.size,j,bI⟩).isSome=true:=fun j hj=>by
  rw[hW1,hL (w:=w.drew) ROW _ w.heap.size j rfl,ea (by omega)];rfl
 have hNf:∀ j,W1.frozen? ⟨w.heap.size,j,bI⟩=false:=fun j=>by rw[hW1];exact hJ (w:=w.drew) ROW _ w.heap.size j rfl
 have hOb:∀ j v,w.cell? ⟨b,j,bI⟩=b7 v->W1.cell? ⟨b,j,bI⟩=b7 v:=fun j v h=>by rw[hW1,fy (w:=w.drew) _ b j hbw];exact h
 have hOv:∀ j v,w.cell? ⟨vb,j,bI⟩=b7 v->W1.cell? ⟨vb,j,bI⟩=b7 v:=fun j v h=>by rw[hW1,fy (w:=w.drew) _ vb j hvw];exact h
 have hcpA:∀ (W:e7),(∀ x,W.cell? x=W1.cell? x)->(∀ x,W.frozen? x=W1.frozen? x)->∀ ty dc,(db #[29,29] ty #[.slice (b7 ⟨w.heap.size,i*5,bI⟩) (n+1-i) dc,.slice (b7 ⟨vb,voff,bI⟩) 1 vc]).run b5 W = .ok (hC 1) (W.setCells w.heap.size (i*5) vs):=fun W hWc hWf ty dc=>
  KD W ty w.heap.size (i*5) (n+1-i) dc ⟨vb,voff,bI⟩ 1 vc 1 vs (by simp only[fm];split<;>omega) (by rw[hvl])
   (fun j v hj=>by rw[ca,hWc];exact hOv _ v (hvs j v hj))
   (fun j hj=>by rw[hWc];exact hN _ (by omega)) (fun j hj=>by rw[hWf];exact hNf _) h1v
 have hGn:n+1<=G:=by rw[hG];exact hB w _ _ _
 have hG63:G<=9223372036854775807:=by
  have:=ir w (n+1) c 86 (by unfold maxLen;omega);rw[← hG] at this;unfold maxLen at this;omega
 have hGi:¬ (G=i):=by omega
 have hGim:¬ (G=i+1):=by omega
 have hci:¬ (c=i):=by omega
 have hbN:b≠w.heap.size:=by omega
 have hdl:(cs.drop (i*5)).length=(n-i)*5:=by rw[dT,hcl,eL]
 have hcpB:∀ (W:e7),(∀ x,W.cell? x=(W1.setCells w.heap.size (i*5) vs).cell? x)->(∀ x,W.frozen? x=(W1.setCells w.heap.size (i*5) vs).frozen? x)->∀ ty dc sc,(db #[29,29] ty #[.slice (b7 ⟨w.heap.size,(i+1)*5,bI⟩) (n-i) dc,.slice (b7 ⟨b,i*5,bI⟩) (n-i) sc]).run b5 W = .ok (hC ((n-i:Nat):Int)) (W.setCells w.heap.size ((i+1)*5) (cs.drop (i*5))):=fun W hWc hWf ty dc sc=>
  KD W ty w.heap.size ((i+1)*5) (n-i) dc ⟨b,i*5,bI⟩ (n-i) sc (n-i) (cs.drop (i*5)) (by simp only[fm];split<;>omega) hdl
   (fun j v hj=>by
    rw[ca,hWc,ek _ _ _ _ _ (fun h _=>absurd h hbN)];exact hOb _ v (hcs (i*5+j) v (by rwa [ds] at hj)))
   (fun j hj=>by rw[hWc];exact h5 _ vs (i*5) W1 (fun t ht=>hN (i*5+t) (by omega)) _ (hN _ (by rw[hdl] at hj;omega)))
   (fun j hj=>by rw[hWf,fx];exact hNf _) (fun v hv=>h1c v (gb hv))
 subst hW1;have hE1:∀ x,((w.alloc (.cells ROW 86)).drew).cell? x=(w.drew.alloc (.cells ROW 86)).cell? x:=fun x=>rfl
 have hE2:∀ x,((w.alloc (.cells ROW 86)).drew).frozen? x=(w.drew.alloc (.cells ROW 86)).frozen? x:=fun x=>rfl
 have hF1:∀ x,(((w.alloc (.cells ROW 86)).drew.setCells w.heap.size (i*5) vs).drew).cell? x=((w.drew.alloc (.cells ROW 86)).setCells w.heap.size (i*5) vs).cell? x:=fun x=>rfl
 have hF2:∀ x,(((w.alloc (.cells ROW 86)).drew.setCells w.heap.size (i*5) vs).drew).frozen? x=((w.drew.alloc (.cells ROW 86)).setCells w.heap.size (i*5) vs).frozen? x:=fun x=>rfl
 have hw1:i64.wrap ((i:Int)+1)=(i:Int)+1:=by rw[cS];omega
 have hw2:i64.wrap ((n:Int)+1)=(n:Int)+1:=by rw[cS];omega
 have hw3:i64.wrap ((n:Int)+1-(i:Int))=(n:Int)+1-(i:Int):=by rw[cS];omega
 have hb1:(0:Int)<=(i:Int)+1:=by omega
 have hin:i<=n:=by omega
 have htn:((i:Int)+1).toNat=i+1:=by omega
 have hb3:(i:Int)<=(n:Int):=by omega
 clear hkk hik hold hROW hG hRl hzl
 go_enter gr,h7
 go_wp2_with (first
  | (at_builtin;refine cI _ rfl _ _ _ _ rfl _ _ rfl rfl _ _ (hrz _) ?_)
  | (at_builtin;refine wpList_copy_runI _ rfl _ _ 29 29 rfl _ _ rfl rfl (hcpA _ hE1 hE2 _ _) ?_)
  | (at_builtin;refine wpList_copy_runI _ rfl _ _ 29 29 rfl _ _ rfl rfl (hcpB _ (fun _=>rfl) (fun _=>rfl) _ _ _) ?_))
 go_region_law_o (refine ho rfl _ _ 29 29 rfl (.slice (b7 ⟨w.heap.size,(i+1)*5,bI⟩) (n-i) (G-(i+1))) (.slice (b7 ⟨b,i*5,bI⟩) (n-i) (c-i)) (by simp[gn,h6]) (by simp[gn,h6]) (hcpB _ hF1 hF2 3 (G-(i+1)) (c-i)) ?_)
 go_wp2
 go_ret
 exact⟨rfl,rfl⟩
theorem DK(b:Nat):∀ (vs:List Value) (o:Nat) (w:e7),AG (fun x=>x=b) w (w.setCells b o vs)
 | [],_,w=>AG.refl _ _
 | v::r,o,w=>by
  rw[hY]
  have i:AG (fun x=>x=b) w (w.setCell ⟨b,o,bI⟩ v):=⟨rfl,rfl,rfl,by
   show w.heap.size<=(w.heap.modify b _).size;simp,fun x j g=>by
   show (w.heap.modify b _)[x]? = _
   rw[fI,if_neg (fun e=>g e.symm)]⟩
  exact i.trans (DK b r (o+1) (w.setCell ⟨b,o,bI⟩ v))
theorem DN(b:Nat):∀ (vs:List Value) (o:Nat) (w:e7) (arr:Array Value) (T:gv) (fz:Nat×Nat),w.heap[b]? = b7 (.cells arr T fz)->o+vs.length<=arr.size ->
  ∃ g,(w.setCells b o vs).heap[b]? = b7 (.cells g T fz)∧g.size=arr.size∧∀ j,g.getD j b'=if o<=j∧j<o+vs.length then vs.getD (j-o) b' else arr.getD j b'
 | [],o,w,arr,T,fz,h,_=>⟨arr,h,rfl,fun j=>by rw[if_neg (by rw[hV];omega)]⟩
 | v::r,o,w,arr,T,fz,h,p=>by
  have C:(w.setCell ⟨b,o,bI⟩ v).heap[b]? = b7 (.cells (arr.setIfInBounds o v) T fz):=by
   show (w.heap.modify b _)[b]? = _
   rw[fI,if_pos rfl,h];rfl
  simp only[e9] at p;obtain⟨g,a1,a2,I⟩:=DN b r (o+1) (w.setCell ⟨b,o,bI⟩ v) _ T fz C (by simp;omega);refine⟨g,a1,by rw[a2];simp,fun j=>?_⟩;rw[I]
  by_cases c:o=j
  ·subst c;rw[if_neg (by omega),if_pos (by simp)];have i:o<arr.size:=by omega
   simp[agD,e6,i]
  ·by_cases c2:o+1<=j∧j<o+1+r.length
   ·rw[if_pos c2,if_pos (by simp only[e9];omega),show j-o=(j-(o+1))+1 by omega,hP]
   ·rw[if_neg c2,if_neg (by simp only[e9];omega)];simp[agD,e6,c]
theorem YZ{S:Nat->Prop}{w:e7}{b cap:Nat}{els:List AV}(h:IK S w b cap 5 els)(hp:0<cap):∃ arr T,w.heap[b]? = b7 (.cells arr T (0,0))∧arr.size=cap*5 ∧
  ∃ cs:List Value,cs.length=els.length*5∧(∀ j,j<els.length*5->cs.getD j b'=arr.getD j b')∧(∀ j v,cs[j]? = b7 v->w.cell? ⟨b,j,bI⟩=b7 v)∧(∀ v∈cs,v.oneCell'=ga) ∧
   ∀ i j,i<els.length->j<5->VR S w (cs.getD (i*5+j) b') ((els.getD i .any).cells.getD j .any):=by
 obtain⟨arr,T,fz,J,C,hs,U⟩:=h.row hp
 have C:fz=(0,0):=by
  rcases C with e|⟨e,_⟩
  ·exact e
  ·exact absurd e (by decide)
 subst C;have P:=h.len;have ab:els.length*5<=arr.size:=by rw[hs];omega
 have o:∀ j,j<els.length*5->(arr.toList.take (els.length*5)).getD j b'=arr.getD j undef:=fun j g=>by
  rw[gdE,cc,if_pos g,agD,fA]
 have p:∀ i j,i<els.length->j<5->VR S w ((arr.toList.take (els.length*5)).getD (i*5+j) b') ((els.getD i .any).cells.getD j .any):=fun i j hi g=>by
  rw[o _ (by omega)];exact U i j hi g
 have I:arr.toList.length=arr.size:=by simp
 refine⟨arr,T,J,hs,arr.toList.take (els.length*5),by rw[bS,I];omega,o,fun j v g=>?_,fun v hm=>?_,p⟩
 ·rw[cc] at g;split at g
  ·simp only[hr,J];rw[fA] at g;rw[g];rfl
  ·cases g
 ·obtain⟨j,g,rfl⟩:=hO hm;have ac:j<els.length*5:=by rw[bS] at g;omega
  have R:j/5<els.length:=by omega
  have h2:j%5<5:=by omega
  have:=p (j/5) (j%5) R h2;rw[show j/5*5+j%5=j by omega] at this;rw[gdE,geE g] at this;refine VR.oneCell this ?_;obtain⟨c1,c2⟩:=h.cells _ R;generalize els.getD (j/5) .any=a at c1 c2 ⊢;unfold AV.atoms at c2;rw[hS] at c2;refine c2 _ ?_;have h3:j%5<a.cells.length:=by rw[c1];exact h2
  rw[gdE,geE h3];exact hR _
def put(els:List AV)(i:Nat)(x:AV):List AV:=els.take i++x::els.drop i
theorem My(els:List AV)(i:Nat)(x:AV):(put els i x).length=els.length+1:=by unfold put;simp;omega
theorem UF{els:List AV}{i:Nat}(hi:i<=els.length)(x:AV)(j:Nat):(put els i x).getD j .any=if j<i then els.getD j .any else if j=i then x else els.getD (j-1) .any:=by
 unfold put;have g:(els.take i).length=i:=by rw[bS];omega
 rw[gdE]
 by_cases c:j<i
 ·rw[if_pos c,ec (by omega),cc,if_pos c,gdE]
 ·rw[if_neg c,e8 (by omega),g]
  by_cases c2:j=i
  ·subst c2;simp
  ·rw[if_neg c2,show j-i=(j-1-i)+1 by omega,hI,ds,show i+(j-1-i)=j-1 by omega,gdE]
def TF(cs vs:List Value)(i j:Nat):Value:=if j<i*5 then cs.getD j b' else if j<(i+1)*5 then vs.getD (j-i*5) b' else cs.getD (j-5) b'
theorem Yf{S S':Nat->Prop}{w w':e7}{rb p:Nat}{els:List AV}{x:AV}{i:Nat}{cs vs:List Value}{o:Array Value}{T:gv}(hi:i<=els.length)
  (hx:x.cells.length=5∧x.atoms=ga) (he:∀ i,i<els.length->(els.getD i .any).cells.length=5∧(els.getD i .any).atoms=ga)
  (C:∀ i j,i<els.length->j<5->VR S w (cs.getD (i*5+j) b') ((els.getD i .any).cells.getD j .any)) (J:∀ j,j<5->VR S w (vs.getD j b') (x.cells.getD j .any))
  (g:AG S w w') (U:∀ b,b<w.heap.size->S' b->S b) (hh:w'.heap[rb]? = b7 (.cells o T (0,0))) (hs:o.size=p*5) (I:els.length+1<=p)
  (hc:∀ j,j<(els.length+1)*5->o.getD j b'=TF cs vs i j):IK S' w' rb p 5 (put els i x):=by
 refine⟨by decide,by rw[My];exact I,fun k P=>?_,fun _=>⟨o,T,(0,0),hh,.inl rfl,hs,fun k j P R=>?_⟩⟩
 ·rw[My] at P;rw[UF hi];split
  ·exact he k (by omega)
  ·split
   ·exact hx
   ·exact he (k-1) (by omega)
 ·rw[My] at P;rw[hc _ (by omega),UF hi];unfold TF
  by_cases c1:k<i
  ·rw[if_pos (by omega),if_pos c1];exact (C k j (by omega) R).mono g U
  ·rw[if_neg (by omega),if_neg c1]
   by_cases c2:k=i
   ·subst c2;rw[if_pos (by omega),if_pos rfl,show k*5+j-k*5=j by omega];exact (J j R).mono g U
   ·rw[if_neg (by omega),if_neg c2,show k*5+j-5=(k-1)*5+j by omega];exact (C (k-1) j (by omega) R).mono g U
theorem PN(cs:List Value)(a j:Nat):(cs.drop a).getD j b'=cs.getD (a+j) b':=by
 rw[gdE,ds,gdE]
theorem Qj{vargs:Array Value}(h:vargs.size=3):vargs = #[vargs.getD 0 b',vargs.getD 1 b',vargs.getD 2 b']:=by
 obtain⟨l⟩:=vargs
 match l,h with
 | [a,b,c],_=>rfl
set_option maxRecDepth 100000 in
theorem sound:CF b5 247 (II 5 48):=by
 refine⟨fun e=>gk e,fun F o w args vargs fa es ab eu=>⟨fun e=>gk e,?_⟩⟩;obtain⟨els,i,x,⟨fu,fs⟩,cb,rfl,e⟩:=eI eu;obtain⟨k,rfl⟩:∃ k:Nat,i=k:=⟨i.toNat,by omega⟩;have he:=hD (P:=b5) gr (by kernel_rfl) rfl;have h0:=GD ab (i:=0) (by simp);have h1:=GD ab (i:=1) (by simp);have h2:=GD ab (i:=2) (by simp);have a8:AK (AD 0) (BR 0 [bR 5 els,.int .i64 (k:Int),.fresh 5 [x]])=b7 ⟨5,els⟩:=by rw[Gw];rfl
 have a7:AK (AD 2) (BR 0 [bR 5 els,.int .i64 (k:Int),.fresh 5 [x]])=b7 ⟨5,[x]⟩:=by rw[Gw];rfl
 have J:IK (AS F o (BR 0 [bR 5 els,.int .i64 (k:Int),.fresh 5 [x]])) w (o.β (AD 0)) (o.cap (AD 0)) 5 els:=ab.home (AD 0) _ a8;have ae:IK (AS F o (BR 0 [bR 5 els,.int .i64 (k:Int),.fresh 5 [x]])) w (o.β (AD 2)) (o.cap (AD 2)) 5 [x]:=ab.home (AD 2) _ a7;have c7:0<o.cap (AD 0)->Ma o (BR 0 [bR 5 els,.int .i64 (k:Int),.fresh 5 [x]]) (AD 0):=fun h=>⟨⟨_,a8⟩,h⟩
 have d0:0<o.cap (AD 2):=by
  have:=ae.len;simp only[hK] at this;omega
 have ex:Ma o (BR 0 [bR 5 els,.int .i64 (k:Int),.fresh 5 [x]]) (AD 2):=⟨⟨_,a7⟩,d0⟩;have el:vargs.size=3:=es;rw[Qj el];generalize vargs.getD 0 b'=v0 at h0;generalize vargs.getD 1 b'=v1 at h1;generalize vargs.getD 2 b'=v2 at h2;obtain⟨fi,d5,aa⟩:=h0;rw[a8] at d5;cases d5;have aa:v0 = .slice (b7 ⟨o.β (AD 0),0,bI⟩) els.length (o.cap (AD 0))∨(o.cap (AD 0)=0∧v0 = .slice bI 0 0):=aa;obtain⟨ff,d4,cn⟩:=h2;rw[a7] at d4;cases d4;have h1:VR _ w v1 (.int .i64 (k:Int)):=h1;cases h1
 have RA:v2 = .slice (b7 ⟨o.β (AD 2),0,bI⟩) 1 (o.cap (AD 2)):=by
  rcases cn with e|⟨e,_⟩
  ·exact e
  ·omega
 subst RA;have hk:k<=els.length:=by omega
 have b9:els.length+1<=9223372036854775807:=by omega
 obtain⟨ej,T2,dz,fd,vs,vl,e4,cm,bo,cf⟩:=YZ ae d0;have vl:vs.length=5:=by simpa using vl
 have cf:∀ j,j<5->VR _ w (vs.getD j b') (x.cells.getD j .any):=fun j U=>by
  have:=cf 0 j (by simp) U;rw[iI,cL] at this;exact this
 have hx:x.cells.length=5∧x.atoms=true:=ae.cells 0 (by simp);have bs:∀ j v,vs[j]? = b7 v->w.cell? ⟨o.β (AD 2),0+j,bI⟩=b7 v:=fun j v h=>by rw[cL];exact cm j v h
 have ev:0<o.cap (AD 0)->o.β (AD 2)≠o.β (AD 0):=fun h e=>by
  have:=UL (ab.inj _ _ ex (c7 h) e);omega
 have b4:∀ (cs:List Value) (rb ac:Nat) (w':e7) (C:Array Value) (T:gv),(∀ i j,i<els.length->j<5->VR (AS F o (BR 0 [bR 5 els,.int .i64 (k:Int),.fresh 5 [x]])) w (cs.getD (i*5+j) b') ((els.getD i .any).cells.getD j .any)) ->
   w'.heap[rb]? = b7 (.cells C T (0,0))->C.size=ac*5->els.length+1<=ac->(∀ j,j<(els.length+1)*5->C.getD j b'=TF cs vs k j) ->
   AG (fun b=>∃ k',Ma o (BR 0 [bR 5 els,.int .i64 (k:Int),.fresh 5 [x]]) k'∧o.β k'=b) w w'->(w.heap.size<=rb∨∃ k',Ma o (BR 0 [bR 5 els,.int .i64 (k:Int),.fresh 5 [x]]) k'∧o.β k'=rb)->¬ F rb ->
   ∃ v g ob κ,(Ending.returned (.slice (b7 ⟨rb,0,bI⟩) (els.length+1) ac)) = .returned v∧bu F o [bR 5 els,.int .i64 (k:Int),.fresh 5 [x]] (II 5 48).modes w v w' ((II 5 48).F [bR 5 els,.int .i64 (k:Int),.fresh 5 [x]]).r ((II 5 48).F [bR 5 els,.int .i64 (k:Int),.fresh 5 [x]]).outs g ob κ:=by
  intro cs rb ac w' C T e2 c8 ct d6 hc a4 hio ew;have hF:((II 5 48).F [bR 5 els,.int .i64 (k:Int),.fresh 5 [x]])=⟨ga,.fresh 5 (put els k x),[.any,.any,.any]⟩:=e;rw[hF]
  have b6:∀ j:Nat,(II 5 48).modes[j]? ≠ b7 Md.io:=fun j=>by
   show ([.mov,.bor,.mov]:List Md)[j]? ≠ b7 Md.io
   match j with
   | 0=>intro h;cases h
   | 1=>intro h;cases h
   | 2=>intro h;cases h
   | j+3=>simp
  have only:∀ q h,AK q [(0,(⟨5,put els k x⟩:Hm))]=b7 h->q=0∧h=⟨5,put els k x⟩:=by
   intro q h hg;simp only[AK,AM,beq_iff_eq] at hg;split at hg
   ·rename_i e;cases hg;exact⟨e.symm,rfl⟩
   ·cases hg
  refine⟨_,⟨fun _=>rb,fun _=>ac⟩,[(0,⟨5,put els k x⟩)],fun _=>0,rfl,⟨a4,fun q h hg=>?_,fun q q' a b _=>?_,fun q a=>ew,fun q a=>hio,?_,fun i j hi U _=>?_,fun i j _ U=>absurd U (b6 j),fun j U=>absurd U (b6 j)⟩⟩
  ·obtain⟨rfl,rfl⟩:=only q h hg;refine Yf hk hx J.cells e2 cf (a4.mono fun b _ hb=>.inr hb) (fun b hb et=>?_) c8 ct d6 hc;rcases et with h|⟨_,_,h⟩
   ·exact .inl h
   ·have h:rb=b:=h;subst h;rcases hio with h|h
    ·omega
    ·exact .inr h
  ·obtain⟨⟨h,hg⟩,_⟩:=a;obtain⟨⟨h',e1⟩,_⟩:=b;rw[(only q h hg).1,(only q' h' e1).1]
  ·exact⟨by simp[AK],.inl (by simp only[My])⟩
  ·rw[hi.1,U.1]
 unfold DD;rw[he];show hy _ _ _ _ _;have av:¬ F w.heap.size:=fun h=>absurd (ab.fb _ h) (ix _)
 have dc:els.length+1<=dw w (els.length+1) (o.cap (AD 0)) 86:=hB w _ _ _
 have atEnd:∀ (base:Option Addr) (cs:List Value),v0 = .slice base els.length (o.cap (AD 0))->k=els.length->o.cap (AD 0)<els.length+1->(base=bI->els.length=0)->cs.length=els.length*5 ->
   (∀ a,base=b7 a->∀ j v,cs[j]? = b7 v->w.cell? (a.add j)=b7 v) ->
   (∀ i j,i<els.length->j<5->VR (AS F o (BR 0 [bR 5 els,.int .i64 (k:Int),.fresh 5 [x]])) w (cs.getD (i*5+j) b') ((els.getD i .any).cells.getD j .any)) ->
   hy b5 247 #[v0,.int .i64 (k:Int),.slice (b7 ⟨o.β (AD 2),0,bI⟩) 1 (o.cap (AD 2))] w fun e' w'=>∃ v g ob κ,e' = .returned v∧bu F o [bR 5 els,.int .i64 (k:Int),.fresh 5 [x]] (II 5 48).modes w v w' ((II 5 48).F [bR 5 els,.int .i64 (k:Int),.fresh 5 [x]]).r ((II 5 48).F [bR 5 els,.int .i64 (k:Int),.fresh 5 [x]]).outs g ob κ:=by
  intro base cs en a9 I d1 cl R ay;subst en;have au:=J.len;have c9:(k:Int)=(els.length:Int):=by omega
  have p:=gP base els.length (o.cap (AD 0)) (o.β (AD 2)) 0 (o.cap (AD 2)) cs vs w au I cb cl vl d1 R bs bo;rw[← c9] at p;refine p.mono fun e' w' ⟨a1,a2⟩=>?_
  rw[a1];refine b4 cs w.heap.size _ w' ((cs++vs).toArray++a' (bN (.agg #[.string ⟨#[]⟩,.int .i64 0,.int .i64 0,.int .i64 0,.int .i64 0])) (dw w (els.length+1) (o.cap (AD 0)) 86-(els.length+1))) 86 ay ?_ ?_ dc (fun j U=>?_) ?_ (.inl (hA _)) av
  ·rw[a2];exact h9 w.drew _
  ·rw[bX,LG,cA,gj,cl,vl];omega
  ·unfold TF;rw[agD,df (by rw[cA,gj,cl,vl];omega),f']
   by_cases c:j<k*5
   ·rw[if_pos c,ec (by omega),gdE]
   ·rw[if_neg c,if_pos (by omega),e8 (by omega),gdE,cl,a9]
  ·rw[a2];exact (AG.drew _ w).trans (AG.alloc _ _ _)
 rcases hQ (o.cap (AD 0)) with hz|hp
 ·have au:=J.len;have bv:els.length=0:=by omega
  have d7:∀ i j,i<els.length->j<5->VR (AS F o (BR 0 [bR 5 els,.int .i64 (k:Int),.fresh 5 [x]])) w (([]:List Value).getD (i*5+j) b') ((els.getD i .any).cells.getD j .any):=fun i j hi _=>by omega
  rcases aa with e0|⟨_,e0⟩
  ·exact atEnd (b7 ⟨o.β (AD 0),0,bI⟩) [] e0 (by omega) (by omega) (fun h=>by cases h) (by simp[bv]) (fun _ _ j v h=>by simp at h) d7
  ·exact atEnd bI [] (by rw[e0,bv,hz]) (by omega) (by omega) (fun _=>bv) (by simp[bv]) (fun _ h=>by cases h) d7
 ·obtain⟨ad,T0,a6,c5,cs,cl,cd,R,d9,ay⟩:=YZ J hp;have au:=J.len
  have e0:v0 = .slice (b7 ⟨o.β (AD 0),0,bI⟩) els.length (o.cap (AD 0)):=by
   rcases aa with e|⟨e,_⟩
   ·exact e
   ·omega
  have a3:∀ j,j<ad.size->(w.cell? ⟨o.β (AD 0),j,bI⟩).isSome=true:=fun j U=>by
   simp only[hr,a6];rw[ea U];rfl
  have be:∀ j,w.frozen? ⟨o.β (AD 0),j,bI⟩=false:=fun j=>by simp[h4,a6]
  have bb:∀ j,w.frozen? ⟨o.β (AD 2),j,bI⟩=false:=fun j=>by simp[h4,dz]
  have aj:∃ k',Ma o (BR 0 [bR 5 els,.int .i64 (k:Int),.fresh 5 [x]]) k'∧o.β k'=o.β (AD 0):=⟨_,c7 hp,rfl⟩;have b8:¬ F (o.β (AD 0)):=ab.nF _ (c7 hp)
  by_cases I:els.length+1<=o.cap (AD 0)
  ·have e5:(els.length+1)*5<=ad.size:=by rw[c5];omega
   by_cases a9:k=els.length
   ·have c9:(k:Int)=(els.length:Int):=by omega
    have p:=gO (o.β (AD 0)) els.length (o.cap (AD 0)) (o.β (AD 2)) 0 (o.cap (AD 2)) vs w I b9 vl (fun j U=>a3 _ (by omega)) (fun j U=>be _) bs bo;rw[← c9,← e0] at p;refine p.mono fun e' w' ⟨a1,a2⟩=>?_
    rw[a1];obtain⟨C,b1,b2,b3⟩:=DN (o.β (AD 0)) vs (els.length*5) w ad T0 (0,0) a6 (by omega);refine b4 cs (o.β (AD 0)) _ w' C T0 ay (by rw[a2];exact b1) (by rw[b2,c5]) I (fun j U=>?_) ?_ (.inr aj) b8
    ·rw[b3];unfold TF
     by_cases c:j<k*5
     ·rw[if_neg (by omega),if_pos c,cd j (by omega)]
     ·rw[if_pos (by omega),if_neg c,if_pos (by omega),a9]
    ·rw[a2];exact (DK _ _ _ _).mono fun b _ hb=>by subst hb;exact aj
   ·have c6:k<els.length:=by omega
    have p:=shift (o.β (AD 0)) els.length (o.cap (AD 0)) k (o.β (AD 2)) 0 (o.cap (AD 2)) cs vs w c6 I b9 (ev hp) cl vl R (fun j U=>a3 _ (by omega)) (fun j U=>be _) bs d9 bo
     T2 T0 ej.size ad.size (by simp[hn,dz]) (by simp[hn,a6]) (by omega) (bb _) (bb _)
    rw[← e0] at p;refine p.mono fun e' w' ⟨a1,a2⟩=>?_
    rw[a1];have dl:(cs.drop (k*5)).length=(els.length-k)*5:=by rw[dT,cl,eL]
    obtain⟨ax,b1,b2,b3⟩:=DN (o.β (AD 0)) (cs.drop (k*5)) ((k+1)*5) w.drew ad T0 (0,0) a6 (by rw[dl];omega);obtain⟨C,c1,c2,c3⟩:=DN (o.β (AD 0)) vs (k*5) _ ax T0 (0,0) b1 (by omega);refine b4 cs (o.β (AD 0)) _ w' C T0 ay (by rw[a2];exact c1) (by rw[c2,b2,c5]) I (fun j U=>?_) ?_ (.inr aj) b8
    ·rw[c3,b3,dl];unfold TF
     by_cases c:j<k*5
     ·rw[if_neg (by omega),if_neg (by omega),if_pos c,cd j (by omega)]
     ·rw[if_neg c]
      by_cases c':j<(k+1)*5
      ·rw[if_pos (by omega),if_pos c']
      ·rw[if_neg (by omega),if_pos (by omega),if_neg c',PN]
       congr 1;omega
    ·rw[a2];refine AG.mono (S:=fun x=>x=o.β (AD 0)) ?_ fun b _ hb=>by subst hb;exact aj
     exact ((AG.drew _ w).trans (DK _ _ _ _)).trans (DK _ _ _ _)
  ·by_cases a9:k=els.length
   ·exact atEnd (b7 ⟨o.β (AD 0),0,bI⟩) cs e0 a9 (by omega) (fun h=>by cases h) cl (fun a h j v U=>by
     cases h
     rw[ca,cL];exact R j v U) ay
   ·have c6:k<els.length:=by omega
    have p:=grow (o.β (AD 0)) els.length (o.cap (AD 0)) k (o.β (AD 2)) 0 (o.cap (AD 2)) cs vs w c6 au (by omega) cb cl vl R bs d9 bo;rw[← e0] at p;refine p.mono fun e' w' ⟨a1,a2⟩=>?_
    rw[a1];have dl:(cs.drop (k*5)).length=(els.length-k)*5:=by rw[dT,cl,eL]
    generalize hG:dw w (els.length+1) (o.cap (AD 0)) 86=G at dc a2 ⊢
    have ao:((cs.take (k*5)).toArray++a' (bN (.agg #[.string ⟨#[]⟩,.int .i64 0,.int .i64 0,.int .i64 0,.int .i64 0])) (els.length+1-k)++a' (bN (.agg #[.string ⟨#[]⟩,.int .i64 0,.int .i64 0,.int .i64 0,.int .i64 0])) (G-(els.length+1))).size=G*5:=by
     rw[bX,bX,LG,LG,cA,bS,cl];omega
    have a5:∀ j,j<k*5->((cs.take (k*5)).toArray++a' (bN (.agg #[.string ⟨#[]⟩,.int .i64 0,.int .i64 0,.int .i64 0,.int .i64 0])) (els.length+1-k)++a' (bN (.agg #[.string ⟨#[]⟩,.int .i64 0,.int .i64 0,.int .i64 0,.int .i64 0])) (G-(els.length+1))).getD j b'=cs.getD j undef:=fun j U=>by
     have h1:j<(cs.take (k*5)).toArray.size:=by rw[cA,bS,cl];omega
     rw[agD,df (by rw[bX];omega),df h1,f',cc,if_pos U,gdE]
    generalize ((cs.take (k*5)).toArray++a' (bN (.agg #[.string ⟨#[]⟩,.int .i64 0,.int .i64 0,.int .i64 0,.int .i64 0])) (els.length+1-k)++a' (bN (.agg #[.string ⟨#[]⟩,.int .i64 0,.int .i64 0,.int .i64 0,.int .i64 0])) (G-(els.length+1)))=ROW at a2 ao a5;have b0:((w.alloc (.cells ROW 86)).drew).heap[w.heap.size]? = b7 (.cells ROW 86 (0,0)):=h9 w _;obtain⟨ax,b1,b2,b3⟩:=DN w.heap.size vs (k*5) _ ROW 86 (0,0) b0 (by rw[ao];omega);have e3:(((w.alloc (.cells ROW 86)).drew.setCells w.heap.size (k*5) vs).drew).heap[w.heap.size]? = b7 (.cells ax 86 (0,0)):=b1;obtain⟨C,c1,c2,c3⟩:=DN w.heap.size (cs.drop (k*5)) ((k+1)*5) _ ax 86 (0,0) e3 (by rw[dl,b2,ao];omega);refine b4 cs w.heap.size _ w' C 86 ay (by rw[a2];exact c1) (by rw[c2,b2,ao]) dc (fun j U=>?_) ?_ (.inl (hA _)) av
    ·rw[c3,b3,dl];unfold TF
     by_cases c:j<k*5
     ·rw[if_neg (by omega),if_neg (by omega),if_pos c,a5 j c]
     ·rw[if_neg c]
      by_cases c':j<(k+1)*5
      ·rw[if_neg (by omega),if_pos (by omega),if_pos c']
      ·rw[if_pos (by omega),if_neg c',PN]
       congr 1;omega
    ·rw[a2];refine AG.mono (S:=fun x=>x=w.heap.size) ?_ fun b hb f0=>by omega
     exact ((((AG.alloc _ w _).trans (AG.drew _ _)).trans (DK _ _ _ _)).trans (AG.drew _ _)).trans (DK _ _ _ _)
end Go.Proofs.YtegmpdmpgmpiaaaGreatDoor.insStar
namespace Go.Proofs.YtegmpdmpgmpiaaaGreatDoor
open Go Go.RowKit
def Ko:Ar:=II 5 48
theorem ol:Ko.modes=[.mov,.bor,.mov]:=rfl
theorem mP:Ko.flat=false:=rfl
attribute [go_sem] ol mP
theorem XK{α:Type}(f:α->AV){l:List α}{i:Int}{v g:List α}(h:gE 48 l i v=b7 g):Ko.F [.fresh 5 (hq f l),.int .i64 i,.fresh 5 (hq f v)]=⟨ga,.fresh 5 (hq f g),[.any,.any,.any]⟩:=mN 5 f h
theorem ko:CF b5 247 Ko:=insStar.sound
end Go.Proofs.YtegmpdmpgmpiaaaGreatDoor
