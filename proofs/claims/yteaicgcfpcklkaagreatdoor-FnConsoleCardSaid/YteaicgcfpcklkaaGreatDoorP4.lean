/- Lemmas and walks, several texts in one. No condition. -/
import Derived.Test.YteaicgcfpcklkaaGreatDoorP3
import Derived.Test.YteaicgcfpcklkaaGreatDoorRows
import Derived.WalkKit
import Derived.Shelf.Spec.SlicesInsertGrow
import Derived.Deep.AppendSrc
import Derived.Lib.AppendZerosOnto
import Derived.Lib.Overlaps
set_option linter.unusedSimpArgs false
set_option linter.unusedVariables false
set_option maxHeartbeats 4000000
open Go.IntKind (i64 u64)
namespace Go.Proofs.YteaicgcfpcklkaaGreatDoor.insEstimate
open Go Go.RowKit Go.Lib Go.Proofs.YteaicgcfpcklkaaGreatDoor
theorem uS:Tryz.prog.underlying 27=some (.slice 64):=by kernel_rfl
theorem iE:(Tryz.prog.info? 64).map (fun i=>(i.zero,i.size,i.bytes))=some (some (.agg #[.int .i64 0,.string ⟨#[]⟩,.string ⟨#[]⟩,.int .i64 0,.bool false]),5,56):=by kernel_rfl
theorem mixed:Tryz.prog.follows Departure.mixedOrders=true:=by kernel_rfl
theorem JI(k:Nat):(Builtin.zeroCells (Value.cells (.agg #[.int .i64 0,.string ⟨#[]⟩,.string ⟨#[]⟩,.int .i64 0,.bool false])) k).size=k*5:=by
 simp[Builtin.zeroCells,Value.cells]
theorem IK(w:World)(ty:TypeId)(b o dLen dCap:Nat)(a:Addr)(sLen sCap m:Nat)(cs:List Value)
  (hm:m=Nat.min sLen dLen) (hl:cs.length=m*5)
  (hsrc:∀ j v,cs[j]? = some v->w.cell? (a.add j)=some v) (hc:∀ j,j<cs.length->(w.cell? ⟨b,o+j,none⟩).isSome=true) (hf:∀ j,j<cs.length->w.frozen? ⟨b,o+j,none⟩=false) (h1:∀ v∈cs,v.oneCell'=true) :
  (Builtin.copy_ #[27,27] ty #[.slice (some ⟨b,o,none⟩) dLen dCap,.slice (some a) sLen sCap]).run Tryz.prog w = .ok (goInt m) (w.setCells b o cs):=by
 have hst:=run_storeCells_cells (P:=Tryz.prog) b o cs 0 w (by simpa using hc) (by simpa using hf) h1;obtain⟨i0,hi0,hz0,hzs,hzb⟩:=info_parts iE;have hld:=run_firstCells_some (P:=Tryz.prog) w 5 m a sLen sCap cs hl hsrc;simp[Builtin.copy_,run_underlying uS,Builtin.lenOf,sizeOf,typeInfo,hi0,hzs,← hm,hld,hst]
theorem ze(w:World)(vb voff vc b o lb cb:Nat)(hvb:vb≠b)(tA tB:TypeId)(kA kB:Nat)(hsa:w.shape? vb=some (tA,kA))(hsb:w.shape? b=some (tB,kB))(hkB:kB≠0)
  (hfa:w.frozen? ⟨vb,voff,none⟩=false) (hfe:w.frozen? ⟨vb,kA,none⟩=false) :
  (callFunc 175 #[.slice (some ⟨vb,voff,none⟩) 1 vc,.slice (some ⟨b,o,none⟩) lb cb]).run Tryz.prog w = .ok (.value (.bool false)) w:=by
 rw[run_callFunc_extern Tryz.func175 (by kernel_rfl) (by kernel_rfl) (by kernel_rfl) (e:=Extern.SlicesOverlaps.overlaps #[27,27] #[4]) (by kernel_rfl),
  Lib.run_overlaps_apart w 27 4 64 uS 5 Tryz.sizeOf64 ⟨vb,voff,none⟩ ⟨b,o,none⟩ 1 vc lb cb hvb tA tB kA kB hsa hsb hkB hfa hfe]
 rfl
set_option maxRecDepth 100000 in
theorem shift(b n c i vb voff vc:Nat)(cs vs:List Value)(w:World)(hi:i<n)(hroom:n+1<=c)(hn63:n+1<=9223372036854775807)(hvb:vb≠b)
  (hcl:cs.length=n*5) (hvl:vs.length=5)
  (hcs:∀ j v,cs[j]? = some v->w.cell? ⟨b,j,none⟩=some v) (hsp:∀ j,j<(n+1)*5->(w.cell? ⟨b,j,none⟩).isSome=true) (hfz:∀ j,j<(n+1)*5->w.frozen? ⟨b,j,none⟩=false)
  (hvs:∀ j v,vs[j]? = some v->w.cell? ⟨vb,voff+j,none⟩=some v) (h1c:∀ v∈cs,v.oneCell'=true) (h1v:∀ v∈vs,v.oneCell'=true)
  (tA tB:TypeId) (kA kB:Nat) (hsa:w.shape? vb=some (tA,kA)) (hsb:w.shape? b=some (tB,kB)) (hkB:kB≠0) (hfa:w.frozen? ⟨vb,voff,none⟩=false) (hfe:w.frozen? ⟨vb,kA,none⟩=false) :
  Calls Tryz.prog 130 #[.slice (some ⟨b,0,none⟩) n c,.int .i64 i,.slice (some ⟨vb,voff,none⟩) 1 vc] w fun e w'=>
   e = .returned (.slice (some ⟨b,0,none⟩) (n+1) c)∧w'=(w.drew.setCells b ((i+1)*5) (cs.drop (i*5))).setCells b (i*5) vs:=by
 have mixed:=mixed;have hz2:¬ ((i:Int)=(n:Int)):=by omega
 have hov:∀ lb cb,(callFunc 175 #[.slice (some ⟨vb,voff,none⟩) 1 vc,.slice (some ⟨b,(i+1)*5,none⟩) lb cb]).run Tryz.prog w = .ok (.value (.bool false)) w:=fun lb cb=>ze w vb voff vc b ((i+1)*5) lb cb hvb tA tB kA kB hsa hsb hkB hfa hfe
 have hdl:(cs.drop (i*5)).length=(n-i)*5:=by rw[List.length_drop,hcl,Nat.sub_mul]
 have hw1:i64.wrap ((i:Int)+1)=(i:Int)+1:=by rw[IntKind.wrap_i64];omega
 have hw2:i64.wrap ((n:Int)+1)=(n:Int)+1:=by rw[IntKind.wrap_i64];omega
 have hb1:(0:Int)<=(i:Int)+1:=by omega
 have hin:i<=n:=by omega
 have htn:((i:Int)+1).toNat=i+1:=by omega
 have hb2:¬ (c=i+1):=by omega
 have hb3:(i:Int)<=(n:Int)+1:=by omega
 have hb4:¬ (c=i):=by omega
 have hb5:¬ ((c:Int)<(n:Int)+1):=by omega
 have hcp1:∀ ty dc sc,(Builtin.copy_ #[27,27] ty #[.slice (some ⟨b,(i+1)*5,none⟩) (n-i) dc,.slice (some ⟨b,i*5,none⟩) (n+1-i) sc]).run Tryz.prog w.drew = .ok (goInt ((n-i:Nat):Int)) (w.drew.setCells b ((i+1)*5) (cs.drop (i*5))):=fun ty dc sc=>
  IK w.drew ty b ((i+1)*5) (n-i) dc ⟨b,i*5,none⟩ (n+1-i) sc (n-i) (cs.drop (i*5)) (by simp only[Nat.min_def];split<;>omega) hdl
   (fun j v hj=>by rw[Addr.add_lit];exact hcs (i*5+j) v (by rwa [List.getElem?_drop] at hj))
   (fun j hj=>hsp _ (by rw[hdl] at hj;omega)) (fun j hj=>hfz _ (by rw[hdl] at hj;omega)) (fun v hv=>h1c v (List.mem_of_mem_drop hv))
 obtain⟨W1,hW1⟩:∃ W1,W1=w.drew.setCells b ((i+1)*5) (cs.drop (i*5)):=⟨_,rfl⟩
 have hsp1:∀ k,k<(n+1)*5->(W1.cell? ⟨b,k,none⟩).isSome=true:=fun k hk=>by
  rw[hW1];exact isSome_setCells b (cs.drop (i*5)) ((i+1)*5) w.drew (fun j hj=>hsp ((i+1)*5+j) (by rw[hdl] at hj;omega)) k (hsp k hk)
 have hcp2:∀ (W:World),(∀ x,W.cell? x=W1.cell? x)->(∀ x,W.frozen? x=W1.frozen? x)->∀ ty dc,(Builtin.copy_ #[27,27] ty #[.slice (some ⟨b,i*5,none⟩) (n+1-i) dc,.slice (some ⟨vb,voff,none⟩) 1 vc]).run Tryz.prog W = .ok (goInt 1) (W.setCells b (i*5) vs):=fun W hWc hWf ty dc=>
  IK W ty b (i*5) (n+1-i) dc ⟨vb,voff,none⟩ 1 vc 1 vs (by simp only[Nat.min_def];split<;>omega) (by rw[hvl])
   (fun j v hj=>by
    rw[Addr.add_lit,hWc,hW1,World.cell?_setCells_out b _ _ _ _ (fun h _=>absurd h hvb)];exact hvs j v hj)
   (fun j hj=>by rw[hWc];exact hsp1 _ (by omega)) (fun j hj=>by rw[hWf,hW1,World.frozen?_setCells];exact hfz _ (by omega)) h1v
 rw[← hW1] at hcp1
 go_enter Tryz.func130,Tryz.ntmps130
 go_wp2_with (simp only[hov])
 go_region_law_o (refine step_copy_runI rfl _ _ 27 27 rfl _ _ (by simp[Act.eval,Act.put]) (by simp[Act.eval,Act.put]) (hcp1 _ _ _) ?_)
 go_wp2_with (at_builtin;refine wpList_copy_runI _ rfl _ _ 27 27 rfl _ _ rfl rfl (hcp2 _ (fun _=>rfl) (fun _=>rfl) _ _) ?_)
 go_ret
 first|exact⟨rfl,rfl⟩|exact⟨rfl,by rw[hW1]⟩
set_option maxRecDepth 100000 in
theorem gN(b n c vb voff vc:Nat)(vs:List Value)(w:World)(hroom:n+1<=c)(hn63:n+1<=9223372036854775807)(hvl:vs.length=5)
  (hsp:∀ j,j<5->(w.cell? ⟨b,n*5+j,none⟩).isSome=true) (hfz:∀ j,j<5->w.frozen? ⟨b,n*5+j,none⟩=false)
  (hvs:∀ j v,vs[j]? = some v->w.cell? ⟨vb,voff+j,none⟩=some v) (h1v:∀ v∈vs,v.oneCell'=true) :
  Calls Tryz.prog 130 #[.slice (some ⟨b,0,none⟩) n c,.int .i64 n,.slice (some ⟨vb,voff,none⟩) 1 vc] w fun e w'=>
   e = .returned (.slice (some ⟨b,0,none⟩) (n+1) c)∧w'=w.setCells b (n*5) vs:=by
 obtain⟨i0,hi0,hz0,hzs,hzb⟩:=info_parts iE
 have hsrc:Go.Src Tryz.prog i0.size 27 (.slice (some ⟨vb,voff,none⟩) 1 vc) 1 vs w:=by
  rw[hzs];exact Go.Src.ofSlice w uS ⟨vb,voff,none⟩ 1 vc vs (by omega) (fun j u hj=>by rw[Addr.add_lit];exact hvs j u hj) h1v
 have hrun:∀ ty,(Builtin.append_ #[27,27] ty #[.slice (some ⟨b,0,none⟩) n c,.slice (some ⟨vb,voff,none⟩) 1 vc]).run Tryz.prog w = .ok (.slice (some ⟨b,0,none⟩) (n+1) c) (w.setCells b (n*5) vs):=fun ty=>by
  have h:=run_append_room_src w 27 27 ty 64 i0 uS hi0 b 0 n c (.slice (some ⟨vb,voff,none⟩) 1 vc) 1 vs hsrc hroom (fun j hj=>by rw[hzs,Nat.zero_add];exact hsp j (by omega)) (fun j hj=>by rw[hzs,Nat.zero_add];exact hfz j (by omega));rw[hzs,Nat.zero_add] at h;exact h
 have hn63:¬ ((n:Int)<0):=by omega
 go_enter Tryz.func130,Tryz.ntmps130
 go_wp2_with (at_builtin;refine Lib.wpList_append_run _ rfl _ _ _ _ rfl _ _ rfl rfl _ _ (hrun _) ?_)
 go_ret
 exact⟨rfl,rfl⟩
set_option maxRecDepth 100000 in
theorem gO(base:Option Addr)(n c vb voff vc:Nat)(cs vs:List Value)(w:World)(hnc:n<=c)(hroom:c<n+1)(hbig:(n+1)*56<=140737488355328)
  (hcl:cs.length=n*5) (hvl:vs.length=5) (hnil:base=none->n=0)
  (hcs:∀ a,base=some a->∀ j v,cs[j]? = some v->w.cell? (a.add j)=some v)
  (hvs:∀ j v,vs[j]? = some v->w.cell? ⟨vb,voff+j,none⟩=some v) (h1v:∀ v∈vs,v.oneCell'=true) :
  Calls Tryz.prog 130 #[.slice base n c,.int .i64 n,.slice (some ⟨vb,voff,none⟩) 1 vc] w fun e w'=>
   e = .returned (.slice (some ⟨w.heap.size,0,none⟩) (n+1) (grownCap w (n+1) c 64)) ∧
   w'=w.drew.alloc (.cells ((cs++vs).toArray++Builtin.zeroCells (Value.cells (.agg #[.int .i64 0,.string ⟨#[]⟩,.string ⟨#[]⟩,.int .i64 0,.bool false])) (grownCap w (n+1) c 64-(n+1))) 64):=by
 obtain⟨i0,hi0,hz0,hzs,hzb⟩:=info_parts iE
 have hsrc:Go.Src Tryz.prog i0.size 27 (.slice (some ⟨vb,voff,none⟩) 1 vc) 1 vs w:=by
  rw[hzs];exact Go.Src.ofSlice w uS ⟨vb,voff,none⟩ 1 vc vs (by omega) (fun j u hj=>by rw[Addr.add_lit];exact hvs j u hj) h1v
 have hold:(Builtin.firstCells i0.size n (.slice base n c)).run Tryz.prog w.drew = .ok cs.toArray w.drew:=by
  rw[hzs];cases base with
  | none=>
   have h0:=hnil rfl;subst h0;rw[List.length_eq_zero_iff.1 (show cs.length=0 by omega)];exact run_firstCells_none w.drew 5 0 0 c
  | some a=>exact run_firstCells_some w.drew 5 n a n c cs hcl (fun j v hj=>hcs a rfl j v hj)
 have hrun:∀ ty,(Builtin.append_ #[27,27] ty #[.slice base n c,.slice (some ⟨vb,voff,none⟩) 1 vc]).run Tryz.prog w=_:=fun ty=>
  run_append_grow_src w 27 27 ty 64 i0 _ uS hi0 hz0 base n c cs hold _ 1 vs hsrc hroom (by omega) (by rw[hzb];exact growslice_fits hroom hbig)
 go_enter Tryz.func130,Tryz.ntmps130
 cases base with
 | none=>
  have h0:=hnil rfl;subst h0
  go_wp2_with (at_builtin;refine Lib.wpList_append_run _ rfl _ _ _ _ rfl _ _ rfl rfl _ _ (hrun _) ?_)
  go_ret
  exact⟨rfl,rfl⟩
 | some a=>
  obtain⟨ab,ao,asp⟩:=a
  go_wp2_with (at_builtin;refine Lib.wpList_append_run _ rfl _ _ _ _ rfl _ _ rfl rfl _ _ (hrun _) ?_)
  all_goals (go_ret;exact⟨rfl,rfl⟩)
set_option maxRecDepth 100000 in
theorem grow(b n c i vb voff vc:Nat)(cs vs:List Value)(w:World)(hi:i<n)(hnc:n<=c)(hroom:c<n+1)(hbig:(n+1)*56<=140737488355328)
  (hcl:cs.length=n*5) (hvl:vs.length=5)
  (hcs:∀ j v,cs[j]? = some v->w.cell? ⟨b,j,none⟩=some v)
  (hvs:∀ j v,vs[j]? = some v->w.cell? ⟨vb,voff+j,none⟩=some v) (h1c:∀ v∈cs,v.oneCell'=true) (h1v:∀ v∈vs,v.oneCell'=true) :
  Calls Tryz.prog 130 #[.slice (some ⟨b,0,none⟩) n c,.int .i64 i,.slice (some ⟨vb,voff,none⟩) 1 vc] w fun e w'=>
   e = .returned (.slice (some ⟨w.heap.size,0,none⟩) (n+1) (grownCap w (n+1) c 64)) ∧
   w'=(((w.alloc (.cells ((cs.take (i*5)).toArray++Builtin.zeroCells (Value.cells (.agg #[.int .i64 0,.string ⟨#[]⟩,.string ⟨#[]⟩,.int .i64 0,.bool false])) (n+1-i)++Builtin.zeroCells (Value.cells (.agg #[.int .i64 0,.string ⟨#[]⟩,.string ⟨#[]⟩,.int .i64 0,.bool false])) (grownCap w (n+1) c 64-(n+1))) 64)).drew.setCells w.heap.size (i*5) vs).drew).setCells w.heap.size ((i+1)*5) (cs.drop (i*5)):=by
 have mixed:=mixed;obtain⟨i0,hi0,hz0,hzs,hzb⟩:=info_parts iE;have hz2:¬ ((i:Int)=(n:Int)):=by omega
 have hz3:(c:Int)<(n:Int)+1:=by omega
 have hbw:b<w.heap.size:=block_lt_of_cell (hcs 0 _ (geE (by omega)));have hvw:vb<w.heap.size:=block_lt_of_cell (hvs 0 _ (geE (by omega)));have hkk:(n:Int)+1-(i:Int)=((n+1-i:Nat):Int):=by omega
 have hik:i+(n+1-i)=n+1:=by omega
 have hold:(Builtin.firstCells i0.size i (.slice (some ⟨b,0,none⟩) i c)).run Tryz.prog w.drew = .ok (cs.take (i*5)).toArray w.drew:=by
  rw[hzs]
  exact run_firstCells_some w.drew 5 i ⟨b,0,none⟩ i c (cs.take (i*5)) (by rw[List.length_take];omega) (fun j v hj=>by
   rw[Addr.add_lit,Nat.zero_add];rw[List.getElem?_take] at hj;split at hj
   ·exact hcs j v hj
   ·cases hj)
 have hrz:∀ ty,(Builtin.append_ #[27,3] ty #[.slice (some ⟨b,0,none⟩) i c,.int .i64 ((n:Int)+1-(i:Int))]).run Tryz.prog w =
   .ok (.slice (some ⟨w.heap.size,0,none⟩) (n+1) (grownCap w (n+1) c 64)) (w.drew.alloc (.cells ((cs.take (i*5)).toArray++Builtin.zeroCells (Value.cells (.agg #[.int .i64 0,.string ⟨#[]⟩,.string ⟨#[]⟩,.int .i64 0,.bool false])) (n+1-i)++Builtin.zeroCells (Value.cells (.agg #[.int .i64 0,.string ⟨#[]⟩,.string ⟨#[]⟩,.int .i64 0,.bool false])) (grownCap w (n+1) c 64-(n+1))) 64)):=fun ty=>by
  have h:=Lib.run_append_grow_zeros w 27 3 ty 64 i0 _ .i64 .i64 uS (by kernel_rfl) hi0 hz0 (some ⟨b,0,none⟩) i c (cs.take (i*5)) hold (n+1-i) (by omega) (by omega) (by omega) (by omega) (by rw[hzb];omega) (by rw[hzb,hik];exact growslice_fits hroom hbig);rw[hik] at h;rw[hkk];exact h
 obtain⟨G,hG⟩:∃ G,G=grownCap w (n+1) c 64:=⟨_,rfl⟩;obtain⟨ROW,hROW⟩:∃ ROW:Array Value,ROW=(cs.take (i*5)).toArray++Builtin.zeroCells (Value.cells (.agg #[.int .i64 0,.string ⟨#[]⟩,.string ⟨#[]⟩,.int .i64 0,.bool false])) (n+1-i)++Builtin.zeroCells (Value.cells (.agg #[.int .i64 0,.string ⟨#[]⟩,.string ⟨#[]⟩,.int .i64 0,.bool false])) (G-(n+1)):=⟨_,rfl⟩;rw[← hG] at hrz ⊢;rw[← hROW] at hrz ⊢;have hzl:∀ k,(Builtin.zeroCells (Value.cells (.agg #[.int .i64 0,.string ⟨#[]⟩,.string ⟨#[]⟩,.int .i64 0,.bool false])) k).size=k*5:=JI
 have hRl:(n+1)*5<=ROW.size:=by
  rw[hROW,Array.size_append,Array.size_append,hzl,hzl,List.size_toArray,List.length_take];omega
 obtain⟨W1,hW1⟩:∃ W1,W1=w.drew.alloc (.cells ROW 64):=⟨_,rfl⟩;rw[← hW1] at hrz
 have hN:∀ j,j<(n+1)*5->(W1.cell? ⟨w.heap.size,j,none⟩).isSome=true:=fun j hj=>by
  rw[hW1,World.cell?_alloc_at (w:=w.drew) ROW _ w.heap.size j rfl,Array.getElem?_eq_getElem (by omega)];rfl
 have hNf:∀ j,W1.frozen? ⟨w.heap.size,j,none⟩=false:=fun j=>by rw[hW1];exact World.frozen?_alloc_at (w:=w.drew) ROW _ w.heap.size j rfl
 have hOb:∀ j v,w.cell? ⟨b,j,none⟩=some v->W1.cell? ⟨b,j,none⟩=some v:=fun j v h=>by rw[hW1,World.cell?_alloc_past (w:=w.drew) _ b j hbw];exact h
 have hOv:∀ j v,w.cell? ⟨vb,j,none⟩=some v->W1.cell? ⟨vb,j,none⟩=some v:=fun j v h=>by rw[hW1,World.cell?_alloc_past (w:=w.drew) _ vb j hvw];exact h
 have hcpA:∀ (W:World),(∀ x,W.cell? x=W1.cell? x)->(∀ x,W.frozen? x=W1.frozen? x)->∀ ty dc,(Builtin.copy_ #[27,27] ty #[.slice (some ⟨w.heap.size,i*5,none⟩) (n+1-i) dc,.slice (some ⟨vb,voff,none⟩) 1 vc]).run Tryz.prog W = .ok (goInt 1) (W.setCells w.heap.size (i*5) vs):=fun W hWc hWf ty dc=>
  IK W ty w.heap.size (i*5) (n+1-i) dc ⟨vb,voff,none⟩ 1 vc 1 vs (by simp only[Nat.min_def];split<;>omega) (by rw[hvl])
   (fun j v hj=>by rw[Addr.add_lit,hWc];exact hOv _ v (hvs j v hj))
   (fun j hj=>by rw[hWc];exact hN _ (by omega)) (fun j hj=>by rw[hWf];exact hNf _) h1v
 have hGn:n+1<=G:=by rw[hG];exact grownCap_ge w _ _ _
 have hG63:G<=9223372036854775807:=by
  have:=grownCap_le_maxLen w (n+1) c 64 (by unfold maxLen;omega);rw[← hG] at this;unfold maxLen at this;omega
 have hGi:¬ (G=i):=by omega
 have hGim:¬ (G=i+1):=by omega
 have hci:¬ (c=i):=by omega
 have hbN:b≠w.heap.size:=by omega
 have hdl:(cs.drop (i*5)).length=(n-i)*5:=by rw[List.length_drop,hcl,Nat.sub_mul]
 have hcpB:∀ (W:World),(∀ x,W.cell? x=(W1.setCells w.heap.size (i*5) vs).cell? x)->(∀ x,W.frozen? x=(W1.setCells w.heap.size (i*5) vs).frozen? x)->∀ ty dc sc,(Builtin.copy_ #[27,27] ty #[.slice (some ⟨w.heap.size,(i+1)*5,none⟩) (n-i) dc,.slice (some ⟨b,i*5,none⟩) (n-i) sc]).run Tryz.prog W = .ok (goInt ((n-i:Nat):Int)) (W.setCells w.heap.size ((i+1)*5) (cs.drop (i*5))):=fun W hWc hWf ty dc sc=>
  IK W ty w.heap.size ((i+1)*5) (n-i) dc ⟨b,i*5,none⟩ (n-i) sc (n-i) (cs.drop (i*5)) (by simp only[Nat.min_def];split<;>omega) hdl
   (fun j v hj=>by
    rw[Addr.add_lit,hWc,World.cell?_setCells_out _ _ _ _ _ (fun h _=>absurd h hbN)];exact hOb _ v (hcs (i*5+j) v (by rwa [List.getElem?_drop] at hj)))
   (fun j hj=>by rw[hWc];exact isSome_setCells _ vs (i*5) W1 (fun t ht=>hN (i*5+t) (by omega)) _ (hN _ (by rw[hdl] at hj;omega)))
   (fun j hj=>by rw[hWf,World.frozen?_setCells];exact hNf _) (fun v hv=>h1c v (List.mem_of_mem_drop hv))
 subst hW1;have hE1:∀ x,((w.alloc (.cells ROW 64)).drew).cell? x=(w.drew.alloc (.cells ROW 64)).cell? x:=fun x=>rfl
 have hE2:∀ x,((w.alloc (.cells ROW 64)).drew).frozen? x=(w.drew.alloc (.cells ROW 64)).frozen? x:=fun x=>rfl
 have hF1:∀ x,(((w.alloc (.cells ROW 64)).drew.setCells w.heap.size (i*5) vs).drew).cell? x=((w.drew.alloc (.cells ROW 64)).setCells w.heap.size (i*5) vs).cell? x:=fun x=>rfl
 have hF2:∀ x,(((w.alloc (.cells ROW 64)).drew.setCells w.heap.size (i*5) vs).drew).frozen? x=((w.drew.alloc (.cells ROW 64)).setCells w.heap.size (i*5) vs).frozen? x:=fun x=>rfl
 have hw1:i64.wrap ((i:Int)+1)=(i:Int)+1:=by rw[IntKind.wrap_i64];omega
 have hw2:i64.wrap ((n:Int)+1)=(n:Int)+1:=by rw[IntKind.wrap_i64];omega
 have hw3:i64.wrap ((n:Int)+1-(i:Int))=(n:Int)+1-(i:Int):=by rw[IntKind.wrap_i64];omega
 have hb1:(0:Int)<=(i:Int)+1:=by omega
 have hin:i<=n:=by omega
 have htn:((i:Int)+1).toNat=i+1:=by omega
 have hb3:(i:Int)<=(n:Int):=by omega
 clear hkk hik hold hROW hG hRl hzl
 go_enter Tryz.func130,Tryz.ntmps130
 go_wp2_with (first
  | (at_builtin;refine Lib.wpList_append_run _ rfl _ _ _ _ rfl _ _ rfl rfl _ _ (hrz _) ?_)
  | (at_builtin;refine wpList_copy_runI _ rfl _ _ 27 27 rfl _ _ rfl rfl (hcpA _ hE1 hE2 _ _) ?_)
  | (at_builtin;refine wpList_copy_runI _ rfl _ _ 27 27 rfl _ _ rfl rfl (hcpB _ (fun _=>rfl) (fun _=>rfl) _ _ _) ?_))
 go_region_law_o (refine step_copy_runI rfl _ _ 27 27 rfl (.slice (some ⟨w.heap.size,(i+1)*5,none⟩) (n-i) (G-(i+1))) (.slice (some ⟨b,i*5,none⟩) (n-i) (c-i)) (by simp[Act.eval,Act.put]) (by simp[Act.eval,Act.put]) (hcpB _ hF1 hF2 3 (G-(i+1)) (c-i)) ?_)
 go_wp2
 go_ret
 exact⟨rfl,rfl⟩
theorem Cb(b:Nat):∀ (vs:List Value) (o:Nat) (w:World),AR (fun x=>x=b) w (w.setCells b o vs)
 | [],_,w=>AR.refl _ _
 | v::r,o,w=>by
  rw[World.setCells]
  have h1:AR (fun x=>x=b) w (w.setCell ⟨b,o,none⟩ v):=⟨rfl,rfl,rfl,by
   show w.heap.size<=(w.heap.modify b _).size;simp,fun x hx hn=>by
   show (w.heap.modify b _)[x]? = _
   rw[Array.getElem?_modify,if_neg (fun e=>hn e.symm)]⟩
  exact h1.trans (Cb b r (o+1) (w.setCell ⟨b,o,none⟩ v))
theorem Ce(b:Nat):∀ (vs:List Value) (o:Nat) (w:World) (arr:Array Value) (T:TypeId) (fz:Nat×Nat),w.heap[b]? = some (.cells arr T fz)->o+vs.length<=arr.size ->
  ∃ arr',(w.setCells b o vs).heap[b]? = some (.cells arr' T fz)∧arr'.size=arr.size∧∀ j,arr'.getD j undef=if o<=j∧j<o+vs.length then vs.getD (j-o) undef else arr.getD j undef
 | [],o,w,arr,T,fz,h,_=>⟨arr,h,rfl,fun j=>by rw[if_neg (by rw[List.length_nil];omega)]⟩
 | v::r,o,w,arr,T,fz,h,hl=>by
  have h1:(w.setCell ⟨b,o,none⟩ v).heap[b]? = some (.cells (arr.setIfInBounds o v) T fz):=by
   show (w.heap.modify b _)[b]? = _
   rw[Array.getElem?_modify,if_pos rfl,h];rfl
  simp only[List.length_cons] at hl;obtain⟨arr',a1,a2,a3⟩:=Ce b r (o+1) (w.setCell ⟨b,o,none⟩ v) _ T fz h1 (by simp;omega);refine⟨arr',a1,by rw[a2];simp,fun j=>?_⟩;rw[a3]
  by_cases c:o=j
  ·subst c;rw[if_neg (by omega),if_pos (by simp)];have ho:o<arr.size:=by omega
   simp[agD,Array.getElem?_setIfInBounds,ho]
  ·by_cases c2:o+1<=j∧j<o+1+r.length
   ·rw[if_pos c2,if_pos (by simp only[List.length_cons];omega),show j-o=(j-(o+1))+1 by omega,List.getD_cons_succ]
   ·rw[if_neg c2,if_neg (by simp only[List.length_cons];omega)];simp[agD,Array.getElem?_setIfInBounds,c]
theorem Yk{S:Nat->Prop}{w:World}{b cap:Nat}{els:List AV}(h:GL S w b cap 5 els)(hp:0<cap):∃ arr T,w.heap[b]? = some (.cells arr T (0,0))∧arr.size=cap*5 ∧
  ∃ cs:List Value,cs.length=els.length*5∧(∀ j,j<els.length*5->cs.getD j undef=arr.getD j undef)∧(∀ j v,cs[j]? = some v->w.cell? ⟨b,j,none⟩=some v)∧(∀ v∈cs,v.oneCell'=true) ∧
   ∀ i j,i<els.length->j<5->VR S w (cs.getD (i*5+j) undef) ((els.getD i .any).cells.getD j .any):=by
 obtain⟨arr,T,fz,hr,hf,hs,hv⟩:=h.row hp
 have hf:fz=(0,0):=by
  rcases hf with e|⟨e,_⟩
  ·exact e
  ·exact absurd e (by decide)
 subst hf;have hlen:=h.len;have hle:els.length*5<=arr.size:=by rw[hs];omega
 have hget:∀ j,j<els.length*5->(arr.toList.take (els.length*5)).getD j undef=arr.getD j undef:=fun j hj=>by
  rw[gdE,List.getElem?_take,if_pos hj,agD,Array.getElem?_toList]
 have hvj:∀ i j,i<els.length->j<5->VR S w ((arr.toList.take (els.length*5)).getD (i*5+j) undef) ((els.getD i .any).cells.getD j .any):=fun i j hi hj=>by
  rw[hget _ (by omega)];exact hv i j hi hj
 have hal:arr.toList.length=arr.size:=by simp
 refine⟨arr,T,hr,hs,arr.toList.take (els.length*5),by rw[List.length_take,hal];omega,hget,fun j v hj=>?_,fun v hm=>?_,hvj⟩
 ·rw[List.getElem?_take] at hj;split at hj
  ·simp only[World.cell?,hr];rw[Array.getElem?_toList] at hj;rw[hj];rfl
  ·cases hj
 ·obtain⟨j,hj,rfl⟩:=List.getElem_of_mem hm;have hj':j<els.length*5:=by rw[List.length_take] at hj;omega
  have h1:j/5<els.length:=by omega
  have h2:j%5<5:=by omega
  have:=hvj (j/5) (j%5) h1 h2;rw[show j/5*5+j%5=j by omega] at this;rw[gdE,geE hj] at this;refine VR.oneCell this ?_;obtain⟨c1,c2⟩:=h.cells _ h1;generalize els.getD (j/5) .any=a at c1 c2 ⊢;unfold AV.atoms at c2;rw[List.all_eq_true] at c2;refine c2 _ ?_;have h3:j%5<a.cells.length:=by rw[c1];exact h2
  rw[gdE,geE h3];exact List.getElem_mem _
def put(els:List AV)(i:Nat)(x:AV):List AV:=els.take i++x::els.drop i
theorem Kn(els:List AV)(i:Nat)(x:AV):(put els i x).length=els.length+1:=by unfold put;simp;omega
theorem RC{els:List AV}{i:Nat}(hi:i<=els.length)(x:AV)(j:Nat):(put els i x).getD j .any=if j<i then els.getD j .any else if j=i then x else els.getD (j-1) .any:=by
 unfold put;have hl:(els.take i).length=i:=by rw[List.length_take];omega
 rw[gdE]
 by_cases c:j<i
 ·rw[if_pos c,List.getElem?_append_left (by omega),List.getElem?_take,if_pos c,gdE]
 ·rw[if_neg c,List.getElem?_append_right (by omega),hl]
  by_cases c2:j=i
  ·subst c2;simp
  ·rw[if_neg c2,show j-i=(j-1-i)+1 by omega,List.getElem?_cons_succ,List.getElem?_drop,show i+(j-1-i)=j-1 by omega,gdE]
def QR(cs vs:List Value)(i:Nat)(j:Nat):Value:=if j<i*5 then cs.getD j undef else if j<(i+1)*5 then vs.getD (j-i*5) undef else cs.getD (j-5) undef
theorem Yo{S S':Nat->Prop}{w w':World}{rb cap':Nat}{els:List AV}{x:AV}{i:Nat}{cs vs:List Value}{arr':Array Value}{T:TypeId}(hi:i<=els.length)
  (hx:x.cells.length=5∧x.atoms=true) (he:∀ i,i<els.length->(els.getD i .any).cells.length=5∧(els.getD i .any).atoms=true)
  (hcs:∀ i j,i<els.length->j<5->VR S w (cs.getD (i*5+j) undef) ((els.getD i .any).cells.getD j .any)) (hvs:∀ j,j<5->VR S w (vs.getD j undef) (x.cells.getD j .any))
  (hsame:AR S w w') (hS:∀ b,b<w.heap.size->S' b->S b) (hh:w'.heap[rb]? = some (.cells arr' T (0,0))) (hs:arr'.size=cap'*5) (hcap:els.length+1<=cap')
  (hc:∀ j,j<(els.length+1)*5->arr'.getD j undef=QR cs vs i j):GL S' w' rb cap' 5 (put els i x):=by
 refine⟨by decide,by rw[Kn];exact hcap,fun k hk=>?_,fun _=>⟨arr',T,(0,0),hh,.inl rfl,hs,fun k j hk hj=>?_⟩⟩
 ·rw[Kn] at hk;rw[RC hi];split
  ·exact he k (by omega)
  ·split
   ·exact hx
   ·exact he (k-1) (by omega)
 ·rw[Kn] at hk;rw[hc _ (by omega),RC hi];unfold QR
  by_cases c1:k<i
  ·rw[if_pos (by omega),if_pos c1];exact (hcs k j (by omega) hj).mono hsame hS
  ·rw[if_neg (by omega),if_neg c1]
   by_cases c2:k=i
   ·subst c2;rw[if_pos (by omega),if_pos rfl,show k*5+j-k*5=j by omega];exact (hvs j hj).mono hsame hS
   ·rw[if_neg (by omega),if_neg c2,show k*5+j-5=(k-1)*5+j by omega];exact (hcs (k-1) j (by omega) hj).mono hsame hS
theorem Mx(cs:List Value)(a j:Nat):(cs.drop a).getD j undef=cs.getD (a+j) undef:=by
 rw[gdE,List.getElem?_drop,gdE]
theorem OE{vargs:Array Value}(h:vargs.size=3):vargs = #[vargs.getD 0 undef,vargs.getD 1 undef,vargs.getD 2 undef]:=by
 obtain⟨l⟩:=vargs
 match l,h with
 | [a,b,c],_=>rfl
set_option maxRecDepth 100000 in
theorem sound:AQ Tryz.prog 130 (GI 5 56):=by
 refine⟨fun e=>Bool.noConfusion e,fun F g0 w args vargs hsh hsz hfr hok=>⟨fun e=>Bool.noConfusion e,?_⟩⟩;obtain⟨els,i,x,⟨hi0,hi1⟩,hbig,rfl,e⟩:=dA hok;obtain⟨k,rfl⟩:∃ k:Nat,i=k:=⟨i.toNat,by omega⟩;have he:=Go.Proofs.enters_of (P:=Tryz.prog) Tryz.func130 (by kernel_rfl) rfl;have h0:=FD hfr (i:=0) (by simp);have h1:=FD hfr (i:=1) (by simp);have h2:=FD hfr (i:=2) (by simp);have hob0:AK (AH 0) (BI 0 [AV.fresh 5 els,.int .i64 (k:Int),.fresh 5 [x]])=some ⟨5,els⟩:=by rw[FV];rfl
 have hob2:AK (AH 2) (BI 0 [AV.fresh 5 els,.int .i64 (k:Int),.fresh 5 [x]])=some ⟨5,[x]⟩:=by rw[FV];rfl
 have home0:GL (AW F g0 (BI 0 [AV.fresh 5 els,.int .i64 (k:Int),.fresh 5 [x]])) w (g0.β (AH 0)) (g0.cap (AH 0)) 5 els:=hfr.home (AH 0) _ hob0;have home2:GL (AW F g0 (BI 0 [AV.fresh 5 els,.int .i64 (k:Int),.fresh 5 [x]])) w (g0.β (AH 2)) (g0.cap (AH 2)) 5 [x]:=hfr.home (AH 2) _ hob2;have hl0:0<g0.cap (AH 0)->KW g0 (BI 0 [AV.fresh 5 els,.int .i64 (k:Int),.fresh 5 [x]]) (AH 0):=fun h=>⟨⟨_,hob0⟩,h⟩
 have hp2:0<g0.cap (AH 2):=by
  have:=home2.len;simp only[List.length_singleton] at this;omega
 have hl2:KW g0 (BI 0 [AV.fresh 5 els,.int .i64 (k:Int),.fresh 5 [x]]) (AH 2):=⟨⟨_,hob2⟩,hp2⟩;have hv3:vargs.size=3:=hsz;rw[OE hv3];generalize vargs.getD 0 undef=v0 at h0;generalize vargs.getD 1 undef=v1 at h1;generalize vargs.getD 2 undef=v2 at h2;obtain⟨hm0,hg0,hval0⟩:=h0;rw[hob0] at hg0;cases hg0;have hval0:v0 = .slice (some ⟨g0.β (AH 0),0,none⟩) els.length (g0.cap (AH 0))∨(g0.cap (AH 0)=0∧v0 = .slice none 0 0):=hval0;obtain⟨hm2,hg2,hval2⟩:=h2;rw[hob2] at hg2;cases hg2;have h1:VR _ w v1 (.int .i64 (k:Int)):=h1;cases h1
 have hv2:v2 = .slice (some ⟨g0.β (AH 2),0,none⟩) 1 (g0.cap (AH 2)):=by
  rcases hval2 with e|⟨e,_⟩
  ·exact e
  ·omega
 subst hv2;have hk:k<=els.length:=by omega
 have hn63:els.length+1<=9223372036854775807:=by omega
 obtain⟨arr2,T2,hr2,hs2,vs,vl,vget,vcell,v1c,vvr⟩:=Yk home2 hp2;have vl:vs.length=5:=by simpa using vl
 have vvr:∀ j,j<5->VR _ w (vs.getD j undef) (x.cells.getD j .any):=fun j hj=>by
  have:=vvr 0 j (by simp) hj;rw[Nat.zero_mul,Nat.zero_add] at this;exact this
 have hx:x.cells.length=5∧x.atoms=true:=home2.cells 0 (by simp);have hvs:∀ j v,vs[j]? = some v->w.cell? ⟨g0.β (AH 2),0+j,none⟩=some v:=fun j v h=>by rw[Nat.zero_add];exact vcell j v h
 have hne:0<g0.cap (AH 0)->g0.β (AH 2)≠g0.β (AH 0):=fun h e=>by
  have:=RI (hfr.inj _ _ hl2 (hl0 h) e);omega
 have fin:∀ (cs:List Value) (rb cap':Nat) (w':World) (arr':Array Value) (T:TypeId),(∀ i j,i<els.length->j<5->VR (AW F g0 (BI 0 [AV.fresh 5 els,.int .i64 (k:Int),.fresh 5 [x]])) w (cs.getD (i*5+j) undef) ((els.getD i .any).cells.getD j .any)) ->
   w'.heap[rb]? = some (.cells arr' T (0,0))->arr'.size=cap'*5->els.length+1<=cap'->(∀ j,j<(els.length+1)*5->arr'.getD j undef=QR cs vs k j) ->
   AR (fun b=>∃ k',KW g0 (BI 0 [AV.fresh 5 els,.int .i64 (k:Int),.fresh 5 [x]]) k'∧g0.β k'=b) w w'->(w.heap.size<=rb∨∃ k',KW g0 (BI 0 [AV.fresh 5 els,.int .i64 (k:Int),.fresh 5 [x]]) k'∧g0.β k'=rb)->¬ F rb ->
   ∃ v g ob κ,(Ending.returned (.slice (some ⟨rb,0,none⟩) (els.length+1) cap')) = .returned v∧bD F g0 [AV.fresh 5 els,.int .i64 (k:Int),.fresh 5 [x]] (GI 5 56).modes w v w' ((GI 5 56).F [AV.fresh 5 els,.int .i64 (k:Int),.fresh 5 [x]]).r ((GI 5 56).F [AV.fresh 5 els,.int .i64 (k:Int),.fresh 5 [x]]).outs g ob κ:=by
  intro cs rb cap' w' arr' T hcs hheap hsize hcap hc hsame hio hnF;have hF:((GI 5 56).F [AV.fresh 5 els,.int .i64 (k:Int),.fresh 5 [x]])=⟨true,.fresh 5 (put els k x),[.any,.any,.any]⟩:=e;rw[hF]
  have noio:∀ j:Nat,(GI 5 56).modes[j]? ≠ some Md.io:=fun j=>by
   show ([.mov,.bor,.mov]:List Md)[j]? ≠ some Md.io
   match j with
   | 0=>intro h;cases h
   | 1=>intro h;cases h
   | 2=>intro h;cases h
   | j+3=>simp
  have only:∀ q h,AK q [(0,(⟨5,put els k x⟩:Hm))]=some h->q=0∧h=⟨5,put els k x⟩:=by
   intro q h hg;simp only[AK,AO,beq_iff_eq] at hg;split at hg
   ·rename_i e;cases hg;exact⟨e.symm,rfl⟩
   ·cases hg
  refine⟨_,⟨fun _=>rb,fun _=>cap'⟩,[(0,⟨5,put els k x⟩)],fun _=>0,rfl,⟨hsame,fun q h hg=>?_,fun q q' a b _=>?_,fun q a=>hnF,fun q a=>hio,?_,fun i j hi hj _=>?_,fun i j _ hj=>absurd hj (noio j),fun j hj=>absurd hj (noio j)⟩⟩
  ·obtain⟨rfl,rfl⟩:=only q h hg;refine Yo hk hx home0.cells hcs vvr (hsame.mono fun b _ hb=>.inr hb) (fun b hb hsb=>?_) hheap hsize hcap hc;rcases hsb with h|⟨_,_,h⟩
   ·exact .inl h
   ·have h:rb=b:=h;subst h;rcases hio with h|h
    ·omega
    ·exact .inr h
  ·obtain⟨⟨h,hg⟩,_⟩:=a;obtain⟨⟨h',hg'⟩,_⟩:=b;rw[(only q h hg).1,(only q' h' hg').1]
  ·exact⟨by simp[AK],.inl (by simp only[Kn])⟩
  ·rw[hi.1,hj.1]
 unfold CZ;rw[he];show Calls _ _ _ _ _;have hfresh:¬ F w.heap.size:=fun h=>absurd (hfr.fb _ h) (Nat.lt_irrefl _)
 have hG1:els.length+1<=grownCap w (els.length+1) (g0.cap (AH 0)) 64:=grownCap_ge w _ _ _
 have atEnd:∀ (base:Option Addr) (cs:List Value),v0 = .slice base els.length (g0.cap (AH 0))->k=els.length->g0.cap (AH 0)<els.length+1->(base=none->els.length=0)->cs.length=els.length*5 ->
   (∀ a,base=some a->∀ j v,cs[j]? = some v->w.cell? (a.add j)=some v) ->
   (∀ i j,i<els.length->j<5->VR (AW F g0 (BI 0 [AV.fresh 5 els,.int .i64 (k:Int),.fresh 5 [x]])) w (cs.getD (i*5+j) undef) ((els.getD i .any).cells.getD j .any)) ->
   Calls Tryz.prog 130 #[v0,.int .i64 (k:Int),.slice (some ⟨g0.β (AH 2),0,none⟩) 1 (g0.cap (AH 2))] w fun e' w'=>∃ v g ob κ,e' = .returned v∧bD F g0 [AV.fresh 5 els,.int .i64 (k:Int),.fresh 5 [x]] (GI 5 56).modes w v w' ((GI 5 56).F [AV.fresh 5 els,.int .i64 (k:Int),.fresh 5 [x]]).r ((GI 5 56).F [AV.fresh 5 els,.int .i64 (k:Int),.fresh 5 [x]]).outs g ob κ:=by
  intro base cs hv0 hke hroom hnil cl ccell cvr;subst hv0;have hlen:=home0.len;have hc1:(k:Int)=(els.length:Int):=by omega
  have hcall:=gO base els.length (g0.cap (AH 0)) (g0.β (AH 2)) 0 (g0.cap (AH 2)) cs vs w hlen hroom hbig cl vl hnil ccell hvs v1c;rw[← hc1] at hcall;refine hcall.mono fun e' w' ⟨a1,a2⟩=>?_
  rw[a1];refine fin cs w.heap.size _ w' ((cs++vs).toArray++Builtin.zeroCells (Value.cells (.agg #[.int .i64 0,.string ⟨#[]⟩,.string ⟨#[]⟩,.int .i64 0,.bool false])) (grownCap w (els.length+1) (g0.cap (AH 0)) 64-(els.length+1))) 64 cvr ?_ ?_ hG1 (fun j hj=>?_) ?_ (.inl (Nat.le_refl _)) hfresh
  ·rw[a2];exact heap_alloc_new w.drew _
  ·rw[Array.size_append,JI,List.size_toArray,List.length_append,cl,vl];omega
  ·unfold QR;rw[agD,Array.getElem?_append_left (by rw[List.size_toArray,List.length_append,cl,vl];omega),List.getElem?_toArray]
   by_cases c:j<k*5
   ·rw[if_pos c,List.getElem?_append_left (by omega),gdE]
   ·rw[if_neg c,if_pos (by omega),List.getElem?_append_right (by omega),gdE,cl,hke]
  ·rw[a2];exact (AR.drew _ w).trans (AR.alloc _ _ _)
 rcases Nat.eq_zero_or_pos (g0.cap (AH 0)) with hz|hp
 ·have hlen:=home0.len;have hn0:els.length=0:=by omega
  have hc0:∀ i j,i<els.length->j<5->VR (AW F g0 (BI 0 [AV.fresh 5 els,.int .i64 (k:Int),.fresh 5 [x]])) w (([]:List Value).getD (i*5+j) undef) ((els.getD i .any).cells.getD j .any):=fun i j hi _=>by omega
  rcases hval0 with e0|⟨_,e0⟩
  ·exact atEnd (some ⟨g0.β (AH 0),0,none⟩) [] e0 (by omega) (by omega) (fun h=>by cases h) (by simp[hn0]) (fun _ _ j v h=>by simp at h) hc0
  ·exact atEnd none [] (by rw[e0,hn0,hz]) (by omega) (by omega) (fun _=>hn0) (by simp[hn0]) (fun _ h=>by cases h) hc0
 ·obtain⟨arr0,T0,hr0,hs0,cs,cl,cget,ccell,c1c,cvr⟩:=Yk home0 hp;have hlen:=home0.len
  have e0:v0 = .slice (some ⟨g0.β (AH 0),0,none⟩) els.length (g0.cap (AH 0)):=by
   rcases hval0 with e|⟨e,_⟩
   ·exact e
   ·omega
  have some0:∀ j,j<arr0.size->(w.cell? ⟨g0.β (AH 0),j,none⟩).isSome=true:=fun j hj=>by
   simp only[World.cell?,hr0];rw[Array.getElem?_eq_getElem hj];rfl
  have froz0:∀ j,w.frozen? ⟨g0.β (AH 0),j,none⟩=false:=fun j=>by simp[World.frozen?,hr0]
  have froz2:∀ j,w.frozen? ⟨g0.β (AH 2),j,none⟩=false:=fun j=>by simp[World.frozen?,hr2]
  have own0:∃ k',KW g0 (BI 0 [AV.fresh 5 els,.int .i64 (k:Int),.fresh 5 [x]]) k'∧g0.β k'=g0.β (AH 0):=⟨_,hl0 hp,rfl⟩;have hnF0:¬ F (g0.β (AH 0)):=hfr.nF _ (hl0 hp)
  by_cases hroom:els.length+1<=g0.cap (AH 0)
  ·have hsz0:(els.length+1)*5<=arr0.size:=by rw[hs0];omega
   by_cases hke:k=els.length
   ·have hc1:(k:Int)=(els.length:Int):=by omega
    have hcall:=gN (g0.β (AH 0)) els.length (g0.cap (AH 0)) (g0.β (AH 2)) 0 (g0.cap (AH 2)) vs w hroom hn63 vl (fun j hj=>some0 _ (by omega)) (fun j hj=>froz0 _) hvs v1c;rw[← hc1,← e0] at hcall;refine hcall.mono fun e' w' ⟨a1,a2⟩=>?_
    rw[a1];obtain⟨arr',b1,b2,b3⟩:=Ce (g0.β (AH 0)) vs (els.length*5) w arr0 T0 (0,0) hr0 (by omega);refine fin cs (g0.β (AH 0)) _ w' arr' T0 cvr (by rw[a2];exact b1) (by rw[b2,hs0]) hroom (fun j hj=>?_) ?_ (.inr own0) hnF0
    ·rw[b3];unfold QR
     by_cases c:j<k*5
     ·rw[if_neg (by omega),if_pos c,cget j (by omega)]
     ·rw[if_pos (by omega),if_neg c,if_pos (by omega),hke]
    ·rw[a2];exact (Cb _ _ _ _).mono fun b _ hb=>by subst hb;exact own0
   ·have hlt:k<els.length:=by omega
    have hcall:=shift (g0.β (AH 0)) els.length (g0.cap (AH 0)) k (g0.β (AH 2)) 0 (g0.cap (AH 2)) cs vs w hlt hroom hn63 (hne hp) cl vl ccell (fun j hj=>some0 _ (by omega)) (fun j hj=>froz0 _) hvs c1c v1c
     T2 T0 arr2.size arr0.size (by simp[World.shape?,hr2]) (by simp[World.shape?,hr0]) (by omega) (froz2 _) (froz2 _)
    rw[← e0] at hcall;refine hcall.mono fun e' w' ⟨a1,a2⟩=>?_
    rw[a1];have dl:(cs.drop (k*5)).length=(els.length-k)*5:=by rw[List.length_drop,cl,Nat.sub_mul]
    obtain⟨arr1,b1,b2,b3⟩:=Ce (g0.β (AH 0)) (cs.drop (k*5)) ((k+1)*5) w.drew arr0 T0 (0,0) hr0 (by rw[dl];omega);obtain⟨arr',c1,c2,c3⟩:=Ce (g0.β (AH 0)) vs (k*5) _ arr1 T0 (0,0) b1 (by omega);refine fin cs (g0.β (AH 0)) _ w' arr' T0 cvr (by rw[a2];exact c1) (by rw[c2,b2,hs0]) hroom (fun j hj=>?_) ?_ (.inr own0) hnF0
    ·rw[c3,b3,dl];unfold QR
     by_cases c:j<k*5
     ·rw[if_neg (by omega),if_neg (by omega),if_pos c,cget j (by omega)]
     ·rw[if_neg c]
      by_cases c':j<(k+1)*5
      ·rw[if_pos (by omega),if_pos c']
      ·rw[if_neg (by omega),if_pos (by omega),if_neg c',Mx]
       congr 1;omega
    ·rw[a2];refine AR.mono (S:=fun x=>x=g0.β (AH 0)) ?_ fun b _ hb=>by subst hb;exact own0
     exact ((AR.drew _ w).trans (Cb _ _ _ _)).trans (Cb _ _ _ _)
  ·by_cases hke:k=els.length
   ·exact atEnd (some ⟨g0.β (AH 0),0,none⟩) cs e0 hke (by omega) (fun h=>by cases h) cl (fun a h j v hj=>by
     cases h
     rw[Addr.add_lit,Nat.zero_add];exact ccell j v hj) cvr
   ·have hlt:k<els.length:=by omega
    have hcall:=grow (g0.β (AH 0)) els.length (g0.cap (AH 0)) k (g0.β (AH 2)) 0 (g0.cap (AH 2)) cs vs w hlt hlen (by omega) hbig cl vl ccell hvs c1c v1c;rw[← e0] at hcall;refine hcall.mono fun e' w' ⟨a1,a2⟩=>?_
    rw[a1];have dl:(cs.drop (k*5)).length=(els.length-k)*5:=by rw[List.length_drop,cl,Nat.sub_mul]
    generalize hG:grownCap w (els.length+1) (g0.cap (AH 0)) 64=G at hG1 a2 ⊢
    have hrow:((cs.take (k*5)).toArray++Builtin.zeroCells (Value.cells (.agg #[.int .i64 0,.string ⟨#[]⟩,.string ⟨#[]⟩,.int .i64 0,.bool false])) (els.length+1-k)++Builtin.zeroCells (Value.cells (.agg #[.int .i64 0,.string ⟨#[]⟩,.string ⟨#[]⟩,.int .i64 0,.bool false])) (G-(els.length+1))).size=G*5:=by
     rw[Array.size_append,Array.size_append,JI,JI,List.size_toArray,List.length_take,cl];omega
    have hrget:∀ j,j<k*5->((cs.take (k*5)).toArray++Builtin.zeroCells (Value.cells (.agg #[.int .i64 0,.string ⟨#[]⟩,.string ⟨#[]⟩,.int .i64 0,.bool false])) (els.length+1-k)++Builtin.zeroCells (Value.cells (.agg #[.int .i64 0,.string ⟨#[]⟩,.string ⟨#[]⟩,.int .i64 0,.bool false])) (G-(els.length+1))).getD j undef=cs.getD j undef:=fun j hj=>by
     have h1:j<(cs.take (k*5)).toArray.size:=by rw[List.size_toArray,List.length_take,cl];omega
     rw[agD,Array.getElem?_append_left (by rw[Array.size_append];omega),Array.getElem?_append_left h1,List.getElem?_toArray,List.getElem?_take,if_pos hj,gdE]
    generalize ((cs.take (k*5)).toArray++Builtin.zeroCells (Value.cells (.agg #[.int .i64 0,.string ⟨#[]⟩,.string ⟨#[]⟩,.int .i64 0,.bool false])) (els.length+1-k)++Builtin.zeroCells (Value.cells (.agg #[.int .i64 0,.string ⟨#[]⟩,.string ⟨#[]⟩,.int .i64 0,.bool false])) (G-(els.length+1)))=ROW at a2 hrow hrget;have b0:((w.alloc (.cells ROW 64)).drew).heap[w.heap.size]? = some (.cells ROW 64 (0,0)):=heap_alloc_new w _;obtain⟨arr1,b1,b2,b3⟩:=Ce w.heap.size vs (k*5) _ ROW 64 (0,0) b0 (by rw[hrow];omega);have b1':(((w.alloc (.cells ROW 64)).drew.setCells w.heap.size (k*5) vs).drew).heap[w.heap.size]? = some (.cells arr1 64 (0,0)):=b1;obtain⟨arr',c1,c2,c3⟩:=Ce w.heap.size (cs.drop (k*5)) ((k+1)*5) _ arr1 64 (0,0) b1' (by rw[dl,b2,hrow];omega);refine fin cs w.heap.size _ w' arr' 64 cvr (by rw[a2];exact c1) (by rw[c2,b2,hrow]) hG1 (fun j hj=>?_) ?_ (.inl (Nat.le_refl _)) hfresh
    ·rw[c3,b3,dl];unfold QR
     by_cases c:j<k*5
     ·rw[if_neg (by omega),if_neg (by omega),if_pos c,hrget j c]
     ·rw[if_neg c]
      by_cases c':j<(k+1)*5
      ·rw[if_neg (by omega),if_pos (by omega),if_pos c']
      ·rw[if_pos (by omega),if_neg c',Mx]
       congr 1;omega
    ·rw[a2];refine AR.mono (S:=fun x=>x=w.heap.size) ?_ fun b hb hb2=>by omega
     exact ((((AR.alloc _ w _).trans (AR.drew _ _)).trans (Cb _ _ _ _)).trans (AR.drew _ _)).trans (Cb _ _ _ _)
end Go.Proofs.YteaicgcfpcklkaaGreatDoor.insEstimate
namespace Go.Proofs.YteaicgcfpcklkaaGreatDoor
open Go Go.RowKit
def FC:Ak:=GI 5 56
theorem au:FC.modes=[.mov,.bor,.mov]:=rfl
theorem WD:FC.flat=false:=rfl
attribute [go_sem] au WD
theorem WA{α:Type}(f:α->AV){l:List α}{i:Int}{v y_:List α}(h:gF 56 l i v=some y_):FC.F [.fresh 5 (List.map f l),.int .i64 i,.fresh 5 (List.map f v)]=⟨true,.fresh 5 (List.map f y_),[.any,.any,.any]⟩:=kv 5 f h
theorem Vq:AQ Tryz.prog 130 FC:=insEstimate.sound
end Go.Proofs.YteaicgcfpcklkaaGreatDoor
namespace Go.Proofs.YteaicgcfpcklkaaGreatDoor.insStar
open Go Go.RowKit Go.Lib Go.Proofs.YteaicgcfpcklkaaGreatDoor
theorem uS:Tryz.prog.underlying 26=some (.slice 71):=by kernel_rfl
theorem iE:(Tryz.prog.info? 71).map (fun i=>(i.zero,i.size,i.bytes))=some (some (.agg #[.string ⟨#[]⟩,.int .i64 0,.int .i64 0,.int .i64 0,.int .i64 0]),5,48):=by kernel_rfl
theorem mixed:Tryz.prog.follows Departure.mixedOrders=true:=by kernel_rfl
theorem JI(k:Nat):(Builtin.zeroCells (Value.cells (.agg #[.string ⟨#[]⟩,.int .i64 0,.int .i64 0,.int .i64 0,.int .i64 0])) k).size=k*5:=by
 simp[Builtin.zeroCells,Value.cells]
theorem IK(w:World)(ty:TypeId)(b o dLen dCap:Nat)(a:Addr)(sLen sCap m:Nat)(cs:List Value)
  (hm:m=Nat.min sLen dLen) (hl:cs.length=m*5)
  (hsrc:∀ j v,cs[j]? = some v->w.cell? (a.add j)=some v) (hc:∀ j,j<cs.length->(w.cell? ⟨b,o+j,none⟩).isSome=true) (hf:∀ j,j<cs.length->w.frozen? ⟨b,o+j,none⟩=false) (h1:∀ v∈cs,v.oneCell'=true) :
  (Builtin.copy_ #[26,26] ty #[.slice (some ⟨b,o,none⟩) dLen dCap,.slice (some a) sLen sCap]).run Tryz.prog w = .ok (goInt m) (w.setCells b o cs):=by
 have hst:=run_storeCells_cells (P:=Tryz.prog) b o cs 0 w (by simpa using hc) (by simpa using hf) h1;obtain⟨i0,hi0,hz0,hzs,hzb⟩:=info_parts iE;have hld:=run_firstCells_some (P:=Tryz.prog) w 5 m a sLen sCap cs hl hsrc;simp[Builtin.copy_,run_underlying uS,Builtin.lenOf,sizeOf,typeInfo,hi0,hzs,← hm,hld,hst]
theorem ze(w:World)(vb voff vc b o lb cb:Nat)(hvb:vb≠b)(tA tB:TypeId)(kA kB:Nat)(hsa:w.shape? vb=some (tA,kA))(hsb:w.shape? b=some (tB,kB))(hkB:kB≠0)
  (hfa:w.frozen? ⟨vb,voff,none⟩=false) (hfe:w.frozen? ⟨vb,kA,none⟩=false) :
  (callFunc 199 #[.slice (some ⟨vb,voff,none⟩) 1 vc,.slice (some ⟨b,o,none⟩) lb cb]).run Tryz.prog w = .ok (.value (.bool false)) w:=by
 rw[run_callFunc_extern Tryz.func199 (by kernel_rfl) (by kernel_rfl) (by kernel_rfl) (e:=Extern.SlicesOverlaps.overlaps #[26,26] #[4]) (by kernel_rfl),
  Lib.run_overlaps_apart w 26 4 71 uS 5 Tryz.sizeOf71 ⟨vb,voff,none⟩ ⟨b,o,none⟩ 1 vc lb cb hvb tA tB kA kB hsa hsb hkB hfa hfe]
 rfl
set_option maxRecDepth 100000 in
theorem shift(b n c i vb voff vc:Nat)(cs vs:List Value)(w:World)(hi:i<n)(hroom:n+1<=c)(hn63:n+1<=9223372036854775807)(hvb:vb≠b)
  (hcl:cs.length=n*5) (hvl:vs.length=5)
  (hcs:∀ j v,cs[j]? = some v->w.cell? ⟨b,j,none⟩=some v) (hsp:∀ j,j<(n+1)*5->(w.cell? ⟨b,j,none⟩).isSome=true) (hfz:∀ j,j<(n+1)*5->w.frozen? ⟨b,j,none⟩=false)
  (hvs:∀ j v,vs[j]? = some v->w.cell? ⟨vb,voff+j,none⟩=some v) (h1c:∀ v∈cs,v.oneCell'=true) (h1v:∀ v∈vs,v.oneCell'=true)
  (tA tB:TypeId) (kA kB:Nat) (hsa:w.shape? vb=some (tA,kA)) (hsb:w.shape? b=some (tB,kB)) (hkB:kB≠0) (hfa:w.frozen? ⟨vb,voff,none⟩=false) (hfe:w.frozen? ⟨vb,kA,none⟩=false) :
  Calls Tryz.prog 174 #[.slice (some ⟨b,0,none⟩) n c,.int .i64 i,.slice (some ⟨vb,voff,none⟩) 1 vc] w fun e w'=>
   e = .returned (.slice (some ⟨b,0,none⟩) (n+1) c)∧w'=(w.drew.setCells b ((i+1)*5) (cs.drop (i*5))).setCells b (i*5) vs:=by
 have mixed:=mixed;have hz2:¬ ((i:Int)=(n:Int)):=by omega
 have hov:∀ lb cb,(callFunc 199 #[.slice (some ⟨vb,voff,none⟩) 1 vc,.slice (some ⟨b,(i+1)*5,none⟩) lb cb]).run Tryz.prog w = .ok (.value (.bool false)) w:=fun lb cb=>ze w vb voff vc b ((i+1)*5) lb cb hvb tA tB kA kB hsa hsb hkB hfa hfe
 have hdl:(cs.drop (i*5)).length=(n-i)*5:=by rw[List.length_drop,hcl,Nat.sub_mul]
 have hw1:i64.wrap ((i:Int)+1)=(i:Int)+1:=by rw[IntKind.wrap_i64];omega
 have hw2:i64.wrap ((n:Int)+1)=(n:Int)+1:=by rw[IntKind.wrap_i64];omega
 have hb1:(0:Int)<=(i:Int)+1:=by omega
 have hin:i<=n:=by omega
 have htn:((i:Int)+1).toNat=i+1:=by omega
 have hb2:¬ (c=i+1):=by omega
 have hb3:(i:Int)<=(n:Int)+1:=by omega
 have hb4:¬ (c=i):=by omega
 have hb5:¬ ((c:Int)<(n:Int)+1):=by omega
 have hcp1:∀ ty dc sc,(Builtin.copy_ #[26,26] ty #[.slice (some ⟨b,(i+1)*5,none⟩) (n-i) dc,.slice (some ⟨b,i*5,none⟩) (n+1-i) sc]).run Tryz.prog w.drew = .ok (goInt ((n-i:Nat):Int)) (w.drew.setCells b ((i+1)*5) (cs.drop (i*5))):=fun ty dc sc=>
  IK w.drew ty b ((i+1)*5) (n-i) dc ⟨b,i*5,none⟩ (n+1-i) sc (n-i) (cs.drop (i*5)) (by simp only[Nat.min_def];split<;>omega) hdl
   (fun j v hj=>by rw[Addr.add_lit];exact hcs (i*5+j) v (by rwa [List.getElem?_drop] at hj))
   (fun j hj=>hsp _ (by rw[hdl] at hj;omega)) (fun j hj=>hfz _ (by rw[hdl] at hj;omega)) (fun v hv=>h1c v (List.mem_of_mem_drop hv))
 obtain⟨W1,hW1⟩:∃ W1,W1=w.drew.setCells b ((i+1)*5) (cs.drop (i*5)):=⟨_,rfl⟩
 have hsp1:∀ k,k<(n+1)*5->(W1.cell? ⟨b,k,none⟩).isSome=true:=fun k hk=>by
  rw[hW1];exact isSome_setCells b (cs.drop (i*5)) ((i+1)*5) w.drew (fun j hj=>hsp ((i+1)*5+j) (by rw[hdl] at hj;omega)) k (hsp k hk)
 have hcp2:∀ (W:World),(∀ x,W.cell? x=W1.cell? x)->(∀ x,W.frozen? x=W1.frozen? x)->∀ ty dc,(Builtin.copy_ #[26,26] ty #[.slice (some ⟨b,i*5,none⟩) (n+1-i) dc,.slice (some ⟨vb,voff,none⟩) 1 vc]).run Tryz.prog W = .ok (goInt 1) (W.setCells b (i*5) vs):=fun W hWc hWf ty dc=>
  IK W ty b (i*5) (n+1-i) dc ⟨vb,voff,none⟩ 1 vc 1 vs (by simp only[Nat.min_def];split<;>omega) (by rw[hvl])
   (fun j v hj=>by
    rw[Addr.add_lit,hWc,hW1,World.cell?_setCells_out b _ _ _ _ (fun h _=>absurd h hvb)];exact hvs j v hj)
   (fun j hj=>by rw[hWc];exact hsp1 _ (by omega)) (fun j hj=>by rw[hWf,hW1,World.frozen?_setCells];exact hfz _ (by omega)) h1v
 rw[← hW1] at hcp1
 go_enter Tryz.func174,Tryz.ntmps174
 go_wp2_with (simp only[hov])
 go_region_law_o (refine step_copy_runI rfl _ _ 26 26 rfl _ _ (by simp[Act.eval,Act.put]) (by simp[Act.eval,Act.put]) (hcp1 _ _ _) ?_)
 go_wp2_with (at_builtin;refine wpList_copy_runI _ rfl _ _ 26 26 rfl _ _ rfl rfl (hcp2 _ (fun _=>rfl) (fun _=>rfl) _ _) ?_)
 go_ret
 first|exact⟨rfl,rfl⟩|exact⟨rfl,by rw[hW1]⟩
set_option maxRecDepth 100000 in
theorem gN(b n c vb voff vc:Nat)(vs:List Value)(w:World)(hroom:n+1<=c)(hn63:n+1<=9223372036854775807)(hvl:vs.length=5)
  (hsp:∀ j,j<5->(w.cell? ⟨b,n*5+j,none⟩).isSome=true) (hfz:∀ j,j<5->w.frozen? ⟨b,n*5+j,none⟩=false)
  (hvs:∀ j v,vs[j]? = some v->w.cell? ⟨vb,voff+j,none⟩=some v) (h1v:∀ v∈vs,v.oneCell'=true) :
  Calls Tryz.prog 174 #[.slice (some ⟨b,0,none⟩) n c,.int .i64 n,.slice (some ⟨vb,voff,none⟩) 1 vc] w fun e w'=>
   e = .returned (.slice (some ⟨b,0,none⟩) (n+1) c)∧w'=w.setCells b (n*5) vs:=by
 obtain⟨i0,hi0,hz0,hzs,hzb⟩:=info_parts iE
 have hsrc:Go.Src Tryz.prog i0.size 26 (.slice (some ⟨vb,voff,none⟩) 1 vc) 1 vs w:=by
  rw[hzs];exact Go.Src.ofSlice w uS ⟨vb,voff,none⟩ 1 vc vs (by omega) (fun j u hj=>by rw[Addr.add_lit];exact hvs j u hj) h1v
 have hrun:∀ ty,(Builtin.append_ #[26,26] ty #[.slice (some ⟨b,0,none⟩) n c,.slice (some ⟨vb,voff,none⟩) 1 vc]).run Tryz.prog w = .ok (.slice (some ⟨b,0,none⟩) (n+1) c) (w.setCells b (n*5) vs):=fun ty=>by
  have h:=run_append_room_src w 26 26 ty 71 i0 uS hi0 b 0 n c (.slice (some ⟨vb,voff,none⟩) 1 vc) 1 vs hsrc hroom (fun j hj=>by rw[hzs,Nat.zero_add];exact hsp j (by omega)) (fun j hj=>by rw[hzs,Nat.zero_add];exact hfz j (by omega));rw[hzs,Nat.zero_add] at h;exact h
 have hn63:¬ ((n:Int)<0):=by omega
 go_enter Tryz.func174,Tryz.ntmps174
 go_wp2_with (at_builtin;refine Lib.wpList_append_run _ rfl _ _ _ _ rfl _ _ rfl rfl _ _ (hrun _) ?_)
 go_ret
 exact⟨rfl,rfl⟩
set_option maxRecDepth 100000 in
theorem gO(base:Option Addr)(n c vb voff vc:Nat)(cs vs:List Value)(w:World)(hnc:n<=c)(hroom:c<n+1)(hbig:(n+1)*48<=140737488355328)
  (hcl:cs.length=n*5) (hvl:vs.length=5) (hnil:base=none->n=0)
  (hcs:∀ a,base=some a->∀ j v,cs[j]? = some v->w.cell? (a.add j)=some v)
  (hvs:∀ j v,vs[j]? = some v->w.cell? ⟨vb,voff+j,none⟩=some v) (h1v:∀ v∈vs,v.oneCell'=true) :
  Calls Tryz.prog 174 #[.slice base n c,.int .i64 n,.slice (some ⟨vb,voff,none⟩) 1 vc] w fun e w'=>
   e = .returned (.slice (some ⟨w.heap.size,0,none⟩) (n+1) (grownCap w (n+1) c 71)) ∧
   w'=w.drew.alloc (.cells ((cs++vs).toArray++Builtin.zeroCells (Value.cells (.agg #[.string ⟨#[]⟩,.int .i64 0,.int .i64 0,.int .i64 0,.int .i64 0])) (grownCap w (n+1) c 71-(n+1))) 71):=by
 obtain⟨i0,hi0,hz0,hzs,hzb⟩:=info_parts iE
 have hsrc:Go.Src Tryz.prog i0.size 26 (.slice (some ⟨vb,voff,none⟩) 1 vc) 1 vs w:=by
  rw[hzs];exact Go.Src.ofSlice w uS ⟨vb,voff,none⟩ 1 vc vs (by omega) (fun j u hj=>by rw[Addr.add_lit];exact hvs j u hj) h1v
 have hold:(Builtin.firstCells i0.size n (.slice base n c)).run Tryz.prog w.drew = .ok cs.toArray w.drew:=by
  rw[hzs];cases base with
  | none=>
   have h0:=hnil rfl;subst h0;rw[List.length_eq_zero_iff.1 (show cs.length=0 by omega)];exact run_firstCells_none w.drew 5 0 0 c
  | some a=>exact run_firstCells_some w.drew 5 n a n c cs hcl (fun j v hj=>hcs a rfl j v hj)
 have hrun:∀ ty,(Builtin.append_ #[26,26] ty #[.slice base n c,.slice (some ⟨vb,voff,none⟩) 1 vc]).run Tryz.prog w=_:=fun ty=>
  run_append_grow_src w 26 26 ty 71 i0 _ uS hi0 hz0 base n c cs hold _ 1 vs hsrc hroom (by omega) (by rw[hzb];exact growslice_fits hroom hbig)
 go_enter Tryz.func174,Tryz.ntmps174
 cases base with
 | none=>
  have h0:=hnil rfl;subst h0
  go_wp2_with (at_builtin;refine Lib.wpList_append_run _ rfl _ _ _ _ rfl _ _ rfl rfl _ _ (hrun _) ?_)
  go_ret
  exact⟨rfl,rfl⟩
 | some a=>
  obtain⟨ab,ao,asp⟩:=a
  go_wp2_with (at_builtin;refine Lib.wpList_append_run _ rfl _ _ _ _ rfl _ _ rfl rfl _ _ (hrun _) ?_)
  all_goals (go_ret;exact⟨rfl,rfl⟩)
set_option maxRecDepth 100000 in
theorem grow(b n c i vb voff vc:Nat)(cs vs:List Value)(w:World)(hi:i<n)(hnc:n<=c)(hroom:c<n+1)(hbig:(n+1)*48<=140737488355328)
  (hcl:cs.length=n*5) (hvl:vs.length=5)
  (hcs:∀ j v,cs[j]? = some v->w.cell? ⟨b,j,none⟩=some v)
  (hvs:∀ j v,vs[j]? = some v->w.cell? ⟨vb,voff+j,none⟩=some v) (h1c:∀ v∈cs,v.oneCell'=true) (h1v:∀ v∈vs,v.oneCell'=true) :
  Calls Tryz.prog 174 #[.slice (some ⟨b,0,none⟩) n c,.int .i64 i,.slice (some ⟨vb,voff,none⟩) 1 vc] w fun e w'=>
   e = .returned (.slice (some ⟨w.heap.size,0,none⟩) (n+1) (grownCap w (n+1) c 71)) ∧
   w'=(((w.alloc (.cells ((cs.take (i*5)).toArray++Builtin.zeroCells (Value.cells (.agg #[.string ⟨#[]⟩,.int .i64 0,.int .i64 0,.int .i64 0,.int .i64 0])) (n+1-i)++Builtin.zeroCells (Value.cells (.agg #[.string ⟨#[]⟩,.int .i64 0,.int .i64 0,.int .i64 0,.int .i64 0])) (grownCap w (n+1) c 71-(n+1))) 71)).drew.setCells w.heap.size (i*5) vs).drew).setCells w.heap.size ((i+1)*5) (cs.drop (i*5)):=by
 have mixed:=mixed;obtain⟨i0,hi0,hz0,hzs,hzb⟩:=info_parts iE;have hz2:¬ ((i:Int)=(n:Int)):=by omega
 have hz3:(c:Int)<(n:Int)+1:=by omega
 have hbw:b<w.heap.size:=block_lt_of_cell (hcs 0 _ (geE (by omega)));have hvw:vb<w.heap.size:=block_lt_of_cell (hvs 0 _ (geE (by omega)));have hkk:(n:Int)+1-(i:Int)=((n+1-i:Nat):Int):=by omega
 have hik:i+(n+1-i)=n+1:=by omega
 have hold:(Builtin.firstCells i0.size i (.slice (some ⟨b,0,none⟩) i c)).run Tryz.prog w.drew = .ok (cs.take (i*5)).toArray w.drew:=by
  rw[hzs]
  exact run_firstCells_some w.drew 5 i ⟨b,0,none⟩ i c (cs.take (i*5)) (by rw[List.length_take];omega) (fun j v hj=>by
   rw[Addr.add_lit,Nat.zero_add];rw[List.getElem?_take] at hj;split at hj
   ·exact hcs j v hj
   ·cases hj)
 have hrz:∀ ty,(Builtin.append_ #[26,3] ty #[.slice (some ⟨b,0,none⟩) i c,.int .i64 ((n:Int)+1-(i:Int))]).run Tryz.prog w =
   .ok (.slice (some ⟨w.heap.size,0,none⟩) (n+1) (grownCap w (n+1) c 71)) (w.drew.alloc (.cells ((cs.take (i*5)).toArray++Builtin.zeroCells (Value.cells (.agg #[.string ⟨#[]⟩,.int .i64 0,.int .i64 0,.int .i64 0,.int .i64 0])) (n+1-i)++Builtin.zeroCells (Value.cells (.agg #[.string ⟨#[]⟩,.int .i64 0,.int .i64 0,.int .i64 0,.int .i64 0])) (grownCap w (n+1) c 71-(n+1))) 71)):=fun ty=>by
  have h:=Lib.run_append_grow_zeros w 26 3 ty 71 i0 _ .i64 .i64 uS (by kernel_rfl) hi0 hz0 (some ⟨b,0,none⟩) i c (cs.take (i*5)) hold (n+1-i) (by omega) (by omega) (by omega) (by omega) (by rw[hzb];omega) (by rw[hzb,hik];exact growslice_fits hroom hbig);rw[hik] at h;rw[hkk];exact h
 obtain⟨G,hG⟩:∃ G,G=grownCap w (n+1) c 71:=⟨_,rfl⟩;obtain⟨ROW,hROW⟩:∃ ROW:Array Value,ROW=(cs.take (i*5)).toArray++Builtin.zeroCells (Value.cells (.agg #[.string ⟨#[]⟩,.int .i64 0,.int .i64 0,.int .i64 0,.int .i64 0])) (n+1-i)++Builtin.zeroCells (Value.cells (.agg #[.string ⟨#[]⟩,.int .i64 0,.int .i64 0,.int .i64 0,.int .i64 0])) (G-(n+1)):=⟨_,rfl⟩;rw[← hG] at hrz ⊢;rw[← hROW] at hrz ⊢;have hzl:∀ k,(Builtin.zeroCells (Value.cells (.agg #[.string ⟨#[]⟩,.int .i64 0,.int .i64 0,.int .i64 0,.int .i64 0])) k).size=k*5:=JI
 have hRl:(n+1)*5<=ROW.size:=by
  rw[hROW,Array.size_append,Array.size_append,hzl,hzl,List.size_toArray,List.length_take];omega
 obtain⟨W1,hW1⟩:∃ W1,W1=w.drew.alloc (.cells ROW 71):=⟨_,rfl⟩;rw[← hW1] at hrz
 have hN:∀ j,j<(n+1)*5->(W1.cell? ⟨w.heap.size,j,none⟩).isSome=true:=fun j hj=>by
  rw[hW1,World.cell?_alloc_at (w:=w.drew) ROW _ w.heap.size j rfl,Array.getElem?_eq_getElem (by omega)];rfl
 have hNf:∀ j,W1.frozen? ⟨w.heap.size,j,none⟩=false:=fun j=>by rw[hW1];exact World.frozen?_alloc_at (w:=w.drew) ROW _ w.heap.size j rfl
 have hOb:∀ j v,w.cell? ⟨b,j,none⟩=some v->W1.cell? ⟨b,j,none⟩=some v:=fun j v h=>by rw[hW1,World.cell?_alloc_past (w:=w.drew) _ b j hbw];exact h
 have hOv:∀ j v,w.cell? ⟨vb,j,none⟩=some v->W1.cell? ⟨vb,j,none⟩=some v:=fun j v h=>by rw[hW1,World.cell?_alloc_past (w:=w.drew) _ vb j hvw];exact h
 have hcpA:∀ (W:World),(∀ x,W.cell? x=W1.cell? x)->(∀ x,W.frozen? x=W1.frozen? x)->∀ ty dc,(Builtin.copy_ #[26,26] ty #[.slice (some ⟨w.heap.size,i*5,none⟩) (n+1-i) dc,.slice (some ⟨vb,voff,none⟩) 1 vc]).run Tryz.prog W = .ok (goInt 1) (W.setCells w.heap.size (i*5) vs):=fun W hWc hWf ty dc=>
  IK W ty w.heap.size (i*5) (n+1-i) dc ⟨vb,voff,none⟩ 1 vc 1 vs (by simp only[Nat.min_def];split<;>omega) (by rw[hvl])
   (fun j v hj=>by rw[Addr.add_lit,hWc];exact hOv _ v (hvs j v hj))
   (fun j hj=>by rw[hWc];exact hN _ (by omega)) (fun j hj=>by rw[hWf];exact hNf _) h1v
 have hGn:n+1<=G:=by rw[hG];exact grownCap_ge w _ _ _
 have hG63:G<=9223372036854775807:=by
  have:=grownCap_le_maxLen w (n+1) c 71 (by unfold maxLen;omega);rw[← hG] at this;unfold maxLen at this;omega
 have hGi:¬ (G=i):=by omega
 have hGim:¬ (G=i+1):=by omega
 have hci:¬ (c=i):=by omega
 have hbN:b≠w.heap.size:=by omega
 have hdl:(cs.drop (i*5)).length=(n-i)*5:=by rw[List.length_drop,hcl,Nat.sub_mul]
 have hcpB:∀ (W:World),(∀ x,W.cell? x=(W1.setCells w.heap.size (i*5) vs).cell? x)->(∀ x,W.frozen? x=(W1.setCells w.heap.size (i*5) vs).frozen? x)->∀ ty dc sc,(Builtin.copy_ #[26,26] ty #[.slice (some ⟨w.heap.size,(i+1)*5,none⟩) (n-i) dc,.slice (some ⟨b,i*5,none⟩) (n-i) sc]).run Tryz.prog W = .ok (goInt ((n-i:Nat):Int)) (W.setCells w.heap.size ((i+1)*5) (cs.drop (i*5))):=fun W hWc hWf ty dc sc=>
  IK W ty w.heap.size ((i+1)*5) (n-i) dc ⟨b,i*5,none⟩ (n-i) sc (n-i) (cs.drop (i*5)) (by simp only[Nat.min_def];split<;>omega) hdl
   (fun j v hj=>by
    rw[Addr.add_lit,hWc,World.cell?_setCells_out _ _ _ _ _ (fun h _=>absurd h hbN)];exact hOb _ v (hcs (i*5+j) v (by rwa [List.getElem?_drop] at hj)))
   (fun j hj=>by rw[hWc];exact isSome_setCells _ vs (i*5) W1 (fun t ht=>hN (i*5+t) (by omega)) _ (hN _ (by rw[hdl] at hj;omega)))
   (fun j hj=>by rw[hWf,World.frozen?_setCells];exact hNf _) (fun v hv=>h1c v (List.mem_of_mem_drop hv))
 subst hW1;have hE1:∀ x,((w.alloc (.cells ROW 71)).drew).cell? x=(w.drew.alloc (.cells ROW 71)).cell? x:=fun x=>rfl
 have hE2:∀ x,((w.alloc (.cells ROW 71)).drew).frozen? x=(w.drew.alloc (.cells ROW 71)).frozen? x:=fun x=>rfl
 have hF1:∀ x,(((w.alloc (.cells ROW 71)).drew.setCells w.heap.size (i*5) vs).drew).cell? x=((w.drew.alloc (.cells ROW 71)).setCells w.heap.size (i*5) vs).cell? x:=fun x=>rfl
 have hF2:∀ x,(((w.alloc (.cells ROW 71)).drew.setCells w.heap.size (i*5) vs).drew).frozen? x=((w.drew.alloc (.cells ROW 71)).setCells w.heap.size (i*5) vs).frozen? x:=fun x=>rfl
 have hw1:i64.wrap ((i:Int)+1)=(i:Int)+1:=by rw[IntKind.wrap_i64];omega
 have hw2:i64.wrap ((n:Int)+1)=(n:Int)+1:=by rw[IntKind.wrap_i64];omega
 have hw3:i64.wrap ((n:Int)+1-(i:Int))=(n:Int)+1-(i:Int):=by rw[IntKind.wrap_i64];omega
 have hb1:(0:Int)<=(i:Int)+1:=by omega
 have hin:i<=n:=by omega
 have htn:((i:Int)+1).toNat=i+1:=by omega
 have hb3:(i:Int)<=(n:Int):=by omega
 clear hkk hik hold hROW hG hRl hzl
 go_enter Tryz.func174,Tryz.ntmps174
 go_wp2_with (first
  | (at_builtin;refine Lib.wpList_append_run _ rfl _ _ _ _ rfl _ _ rfl rfl _ _ (hrz _) ?_)
  | (at_builtin;refine wpList_copy_runI _ rfl _ _ 26 26 rfl _ _ rfl rfl (hcpA _ hE1 hE2 _ _) ?_)
  | (at_builtin;refine wpList_copy_runI _ rfl _ _ 26 26 rfl _ _ rfl rfl (hcpB _ (fun _=>rfl) (fun _=>rfl) _ _ _) ?_))
 go_region_law_o (refine step_copy_runI rfl _ _ 26 26 rfl (.slice (some ⟨w.heap.size,(i+1)*5,none⟩) (n-i) (G-(i+1))) (.slice (some ⟨b,i*5,none⟩) (n-i) (c-i)) (by simp[Act.eval,Act.put]) (by simp[Act.eval,Act.put]) (hcpB _ hF1 hF2 3 (G-(i+1)) (c-i)) ?_)
 go_wp2
 go_ret
 exact⟨rfl,rfl⟩
theorem Cb(b:Nat):∀ (vs:List Value) (o:Nat) (w:World),AR (fun x=>x=b) w (w.setCells b o vs)
 | [],_,w=>AR.refl _ _
 | v::r,o,w=>by
  rw[World.setCells]
  have h1:AR (fun x=>x=b) w (w.setCell ⟨b,o,none⟩ v):=⟨rfl,rfl,rfl,by
   show w.heap.size<=(w.heap.modify b _).size;simp,fun x hx hn=>by
   show (w.heap.modify b _)[x]? = _
   rw[Array.getElem?_modify,if_neg (fun e=>hn e.symm)]⟩
  exact h1.trans (Cb b r (o+1) (w.setCell ⟨b,o,none⟩ v))
theorem Ce(b:Nat):∀ (vs:List Value) (o:Nat) (w:World) (arr:Array Value) (T:TypeId) (fz:Nat×Nat),w.heap[b]? = some (.cells arr T fz)->o+vs.length<=arr.size ->
  ∃ arr',(w.setCells b o vs).heap[b]? = some (.cells arr' T fz)∧arr'.size=arr.size∧∀ j,arr'.getD j undef=if o<=j∧j<o+vs.length then vs.getD (j-o) undef else arr.getD j undef
 | [],o,w,arr,T,fz,h,_=>⟨arr,h,rfl,fun j=>by rw[if_neg (by rw[List.length_nil];omega)]⟩
 | v::r,o,w,arr,T,fz,h,hl=>by
  have h1:(w.setCell ⟨b,o,none⟩ v).heap[b]? = some (.cells (arr.setIfInBounds o v) T fz):=by
   show (w.heap.modify b _)[b]? = _
   rw[Array.getElem?_modify,if_pos rfl,h];rfl
  simp only[List.length_cons] at hl;obtain⟨arr',a1,a2,a3⟩:=Ce b r (o+1) (w.setCell ⟨b,o,none⟩ v) _ T fz h1 (by simp;omega);refine⟨arr',a1,by rw[a2];simp,fun j=>?_⟩;rw[a3]
  by_cases c:o=j
  ·subst c;rw[if_neg (by omega),if_pos (by simp)];have ho:o<arr.size:=by omega
   simp[agD,Array.getElem?_setIfInBounds,ho]
  ·by_cases c2:o+1<=j∧j<o+1+r.length
   ·rw[if_pos c2,if_pos (by simp only[List.length_cons];omega),show j-o=(j-(o+1))+1 by omega,List.getD_cons_succ]
   ·rw[if_neg c2,if_neg (by simp only[List.length_cons];omega)];simp[agD,Array.getElem?_setIfInBounds,c]
theorem Yk{S:Nat->Prop}{w:World}{b cap:Nat}{els:List AV}(h:GL S w b cap 5 els)(hp:0<cap):∃ arr T,w.heap[b]? = some (.cells arr T (0,0))∧arr.size=cap*5 ∧
  ∃ cs:List Value,cs.length=els.length*5∧(∀ j,j<els.length*5->cs.getD j undef=arr.getD j undef)∧(∀ j v,cs[j]? = some v->w.cell? ⟨b,j,none⟩=some v)∧(∀ v∈cs,v.oneCell'=true) ∧
   ∀ i j,i<els.length->j<5->VR S w (cs.getD (i*5+j) undef) ((els.getD i .any).cells.getD j .any):=by
 obtain⟨arr,T,fz,hr,hf,hs,hv⟩:=h.row hp
 have hf:fz=(0,0):=by
  rcases hf with e|⟨e,_⟩
  ·exact e
  ·exact absurd e (by decide)
 subst hf;have hlen:=h.len;have hle:els.length*5<=arr.size:=by rw[hs];omega
 have hget:∀ j,j<els.length*5->(arr.toList.take (els.length*5)).getD j undef=arr.getD j undef:=fun j hj=>by
  rw[gdE,List.getElem?_take,if_pos hj,agD,Array.getElem?_toList]
 have hvj:∀ i j,i<els.length->j<5->VR S w ((arr.toList.take (els.length*5)).getD (i*5+j) undef) ((els.getD i .any).cells.getD j .any):=fun i j hi hj=>by
  rw[hget _ (by omega)];exact hv i j hi hj
 have hal:arr.toList.length=arr.size:=by simp
 refine⟨arr,T,hr,hs,arr.toList.take (els.length*5),by rw[List.length_take,hal];omega,hget,fun j v hj=>?_,fun v hm=>?_,hvj⟩
 ·rw[List.getElem?_take] at hj;split at hj
  ·simp only[World.cell?,hr];rw[Array.getElem?_toList] at hj;rw[hj];rfl
  ·cases hj
 ·obtain⟨j,hj,rfl⟩:=List.getElem_of_mem hm;have hj':j<els.length*5:=by rw[List.length_take] at hj;omega
  have h1:j/5<els.length:=by omega
  have h2:j%5<5:=by omega
  have:=hvj (j/5) (j%5) h1 h2;rw[show j/5*5+j%5=j by omega] at this;rw[gdE,geE hj] at this;refine VR.oneCell this ?_;obtain⟨c1,c2⟩:=h.cells _ h1;generalize els.getD (j/5) .any=a at c1 c2 ⊢;unfold AV.atoms at c2;rw[List.all_eq_true] at c2;refine c2 _ ?_;have h3:j%5<a.cells.length:=by rw[c1];exact h2
  rw[gdE,geE h3];exact List.getElem_mem _
def put(els:List AV)(i:Nat)(x:AV):List AV:=els.take i++x::els.drop i
theorem Kn(els:List AV)(i:Nat)(x:AV):(put els i x).length=els.length+1:=by unfold put;simp;omega
theorem RC{els:List AV}{i:Nat}(hi:i<=els.length)(x:AV)(j:Nat):(put els i x).getD j .any=if j<i then els.getD j .any else if j=i then x else els.getD (j-1) .any:=by
 unfold put;have hl:(els.take i).length=i:=by rw[List.length_take];omega
 rw[gdE]
 by_cases c:j<i
 ·rw[if_pos c,List.getElem?_append_left (by omega),List.getElem?_take,if_pos c,gdE]
 ·rw[if_neg c,List.getElem?_append_right (by omega),hl]
  by_cases c2:j=i
  ·subst c2;simp
  ·rw[if_neg c2,show j-i=(j-1-i)+1 by omega,List.getElem?_cons_succ,List.getElem?_drop,show i+(j-1-i)=j-1 by omega,gdE]
def QR(cs vs:List Value)(i:Nat)(j:Nat):Value:=if j<i*5 then cs.getD j undef else if j<(i+1)*5 then vs.getD (j-i*5) undef else cs.getD (j-5) undef
theorem Yo{S S':Nat->Prop}{w w':World}{rb cap':Nat}{els:List AV}{x:AV}{i:Nat}{cs vs:List Value}{arr':Array Value}{T:TypeId}(hi:i<=els.length)
  (hx:x.cells.length=5∧x.atoms=true) (he:∀ i,i<els.length->(els.getD i .any).cells.length=5∧(els.getD i .any).atoms=true)
  (hcs:∀ i j,i<els.length->j<5->VR S w (cs.getD (i*5+j) undef) ((els.getD i .any).cells.getD j .any)) (hvs:∀ j,j<5->VR S w (vs.getD j undef) (x.cells.getD j .any))
  (hsame:AR S w w') (hS:∀ b,b<w.heap.size->S' b->S b) (hh:w'.heap[rb]? = some (.cells arr' T (0,0))) (hs:arr'.size=cap'*5) (hcap:els.length+1<=cap')
  (hc:∀ j,j<(els.length+1)*5->arr'.getD j undef=QR cs vs i j):GL S' w' rb cap' 5 (put els i x):=by
 refine⟨by decide,by rw[Kn];exact hcap,fun k hk=>?_,fun _=>⟨arr',T,(0,0),hh,.inl rfl,hs,fun k j hk hj=>?_⟩⟩
 ·rw[Kn] at hk;rw[RC hi];split
  ·exact he k (by omega)
  ·split
   ·exact hx
   ·exact he (k-1) (by omega)
 ·rw[Kn] at hk;rw[hc _ (by omega),RC hi];unfold QR
  by_cases c1:k<i
  ·rw[if_pos (by omega),if_pos c1];exact (hcs k j (by omega) hj).mono hsame hS
  ·rw[if_neg (by omega),if_neg c1]
   by_cases c2:k=i
   ·subst c2;rw[if_pos (by omega),if_pos rfl,show k*5+j-k*5=j by omega];exact (hvs j hj).mono hsame hS
   ·rw[if_neg (by omega),if_neg c2,show k*5+j-5=(k-1)*5+j by omega];exact (hcs (k-1) j (by omega) hj).mono hsame hS
theorem Mx(cs:List Value)(a j:Nat):(cs.drop a).getD j undef=cs.getD (a+j) undef:=by
 rw[gdE,List.getElem?_drop,gdE]
theorem OE{vargs:Array Value}(h:vargs.size=3):vargs = #[vargs.getD 0 undef,vargs.getD 1 undef,vargs.getD 2 undef]:=by
 obtain⟨l⟩:=vargs
 match l,h with
 | [a,b,c],_=>rfl
set_option maxRecDepth 100000 in
theorem sound:AQ Tryz.prog 174 (GI 5 48):=by
 refine⟨fun e=>Bool.noConfusion e,fun F g0 w args vargs hsh hsz hfr hok=>⟨fun e=>Bool.noConfusion e,?_⟩⟩;obtain⟨els,i,x,⟨hi0,hi1⟩,hbig,rfl,e⟩:=dA hok;obtain⟨k,rfl⟩:∃ k:Nat,i=k:=⟨i.toNat,by omega⟩;have he:=Go.Proofs.enters_of (P:=Tryz.prog) Tryz.func174 (by kernel_rfl) rfl;have h0:=FD hfr (i:=0) (by simp);have h1:=FD hfr (i:=1) (by simp);have h2:=FD hfr (i:=2) (by simp);have hob0:AK (AH 0) (BI 0 [AV.fresh 5 els,.int .i64 (k:Int),.fresh 5 [x]])=some ⟨5,els⟩:=by rw[FV];rfl
 have hob2:AK (AH 2) (BI 0 [AV.fresh 5 els,.int .i64 (k:Int),.fresh 5 [x]])=some ⟨5,[x]⟩:=by rw[FV];rfl
 have home0:GL (AW F g0 (BI 0 [AV.fresh 5 els,.int .i64 (k:Int),.fresh 5 [x]])) w (g0.β (AH 0)) (g0.cap (AH 0)) 5 els:=hfr.home (AH 0) _ hob0;have home2:GL (AW F g0 (BI 0 [AV.fresh 5 els,.int .i64 (k:Int),.fresh 5 [x]])) w (g0.β (AH 2)) (g0.cap (AH 2)) 5 [x]:=hfr.home (AH 2) _ hob2;have hl0:0<g0.cap (AH 0)->KW g0 (BI 0 [AV.fresh 5 els,.int .i64 (k:Int),.fresh 5 [x]]) (AH 0):=fun h=>⟨⟨_,hob0⟩,h⟩
 have hp2:0<g0.cap (AH 2):=by
  have:=home2.len;simp only[List.length_singleton] at this;omega
 have hl2:KW g0 (BI 0 [AV.fresh 5 els,.int .i64 (k:Int),.fresh 5 [x]]) (AH 2):=⟨⟨_,hob2⟩,hp2⟩;have hv3:vargs.size=3:=hsz;rw[OE hv3];generalize vargs.getD 0 undef=v0 at h0;generalize vargs.getD 1 undef=v1 at h1;generalize vargs.getD 2 undef=v2 at h2;obtain⟨hm0,hg0,hval0⟩:=h0;rw[hob0] at hg0;cases hg0;have hval0:v0 = .slice (some ⟨g0.β (AH 0),0,none⟩) els.length (g0.cap (AH 0))∨(g0.cap (AH 0)=0∧v0 = .slice none 0 0):=hval0;obtain⟨hm2,hg2,hval2⟩:=h2;rw[hob2] at hg2;cases hg2;have h1:VR _ w v1 (.int .i64 (k:Int)):=h1;cases h1
 have hv2:v2 = .slice (some ⟨g0.β (AH 2),0,none⟩) 1 (g0.cap (AH 2)):=by
  rcases hval2 with e|⟨e,_⟩
  ·exact e
  ·omega
 subst hv2;have hk:k<=els.length:=by omega
 have hn63:els.length+1<=9223372036854775807:=by omega
 obtain⟨arr2,T2,hr2,hs2,vs,vl,vget,vcell,v1c,vvr⟩:=Yk home2 hp2;have vl:vs.length=5:=by simpa using vl
 have vvr:∀ j,j<5->VR _ w (vs.getD j undef) (x.cells.getD j .any):=fun j hj=>by
  have:=vvr 0 j (by simp) hj;rw[Nat.zero_mul,Nat.zero_add] at this;exact this
 have hx:x.cells.length=5∧x.atoms=true:=home2.cells 0 (by simp);have hvs:∀ j v,vs[j]? = some v->w.cell? ⟨g0.β (AH 2),0+j,none⟩=some v:=fun j v h=>by rw[Nat.zero_add];exact vcell j v h
 have hne:0<g0.cap (AH 0)->g0.β (AH 2)≠g0.β (AH 0):=fun h e=>by
  have:=RI (hfr.inj _ _ hl2 (hl0 h) e);omega
 have fin:∀ (cs:List Value) (rb cap':Nat) (w':World) (arr':Array Value) (T:TypeId),(∀ i j,i<els.length->j<5->VR (AW F g0 (BI 0 [AV.fresh 5 els,.int .i64 (k:Int),.fresh 5 [x]])) w (cs.getD (i*5+j) undef) ((els.getD i .any).cells.getD j .any)) ->
   w'.heap[rb]? = some (.cells arr' T (0,0))->arr'.size=cap'*5->els.length+1<=cap'->(∀ j,j<(els.length+1)*5->arr'.getD j undef=QR cs vs k j) ->
   AR (fun b=>∃ k',KW g0 (BI 0 [AV.fresh 5 els,.int .i64 (k:Int),.fresh 5 [x]]) k'∧g0.β k'=b) w w'->(w.heap.size<=rb∨∃ k',KW g0 (BI 0 [AV.fresh 5 els,.int .i64 (k:Int),.fresh 5 [x]]) k'∧g0.β k'=rb)->¬ F rb ->
   ∃ v g ob κ,(Ending.returned (.slice (some ⟨rb,0,none⟩) (els.length+1) cap')) = .returned v∧bD F g0 [AV.fresh 5 els,.int .i64 (k:Int),.fresh 5 [x]] (GI 5 48).modes w v w' ((GI 5 48).F [AV.fresh 5 els,.int .i64 (k:Int),.fresh 5 [x]]).r ((GI 5 48).F [AV.fresh 5 els,.int .i64 (k:Int),.fresh 5 [x]]).outs g ob κ:=by
  intro cs rb cap' w' arr' T hcs hheap hsize hcap hc hsame hio hnF;have hF:((GI 5 48).F [AV.fresh 5 els,.int .i64 (k:Int),.fresh 5 [x]])=⟨true,.fresh 5 (put els k x),[.any,.any,.any]⟩:=e;rw[hF]
  have noio:∀ j:Nat,(GI 5 48).modes[j]? ≠ some Md.io:=fun j=>by
   show ([.mov,.bor,.mov]:List Md)[j]? ≠ some Md.io
   match j with
   | 0=>intro h;cases h
   | 1=>intro h;cases h
   | 2=>intro h;cases h
   | j+3=>simp
  have only:∀ q h,AK q [(0,(⟨5,put els k x⟩:Hm))]=some h->q=0∧h=⟨5,put els k x⟩:=by
   intro q h hg;simp only[AK,AO,beq_iff_eq] at hg;split at hg
   ·rename_i e;cases hg;exact⟨e.symm,rfl⟩
   ·cases hg
  refine⟨_,⟨fun _=>rb,fun _=>cap'⟩,[(0,⟨5,put els k x⟩)],fun _=>0,rfl,⟨hsame,fun q h hg=>?_,fun q q' a b _=>?_,fun q a=>hnF,fun q a=>hio,?_,fun i j hi hj _=>?_,fun i j _ hj=>absurd hj (noio j),fun j hj=>absurd hj (noio j)⟩⟩
  ·obtain⟨rfl,rfl⟩:=only q h hg;refine Yo hk hx home0.cells hcs vvr (hsame.mono fun b _ hb=>.inr hb) (fun b hb hsb=>?_) hheap hsize hcap hc;rcases hsb with h|⟨_,_,h⟩
   ·exact .inl h
   ·have h:rb=b:=h;subst h;rcases hio with h|h
    ·omega
    ·exact .inr h
  ·obtain⟨⟨h,hg⟩,_⟩:=a;obtain⟨⟨h',hg'⟩,_⟩:=b;rw[(only q h hg).1,(only q' h' hg').1]
  ·exact⟨by simp[AK],.inl (by simp only[Kn])⟩
  ·rw[hi.1,hj.1]
 unfold CZ;rw[he];show Calls _ _ _ _ _;have hfresh:¬ F w.heap.size:=fun h=>absurd (hfr.fb _ h) (Nat.lt_irrefl _)
 have hG1:els.length+1<=grownCap w (els.length+1) (g0.cap (AH 0)) 71:=grownCap_ge w _ _ _
 have atEnd:∀ (base:Option Addr) (cs:List Value),v0 = .slice base els.length (g0.cap (AH 0))->k=els.length->g0.cap (AH 0)<els.length+1->(base=none->els.length=0)->cs.length=els.length*5 ->
   (∀ a,base=some a->∀ j v,cs[j]? = some v->w.cell? (a.add j)=some v) ->
   (∀ i j,i<els.length->j<5->VR (AW F g0 (BI 0 [AV.fresh 5 els,.int .i64 (k:Int),.fresh 5 [x]])) w (cs.getD (i*5+j) undef) ((els.getD i .any).cells.getD j .any)) ->
   Calls Tryz.prog 174 #[v0,.int .i64 (k:Int),.slice (some ⟨g0.β (AH 2),0,none⟩) 1 (g0.cap (AH 2))] w fun e' w'=>∃ v g ob κ,e' = .returned v∧bD F g0 [AV.fresh 5 els,.int .i64 (k:Int),.fresh 5 [x]] (GI 5 48).modes w v w' ((GI 5 48).F [AV.fresh 5 els,.int .i64 (k:Int),.fresh 5 [x]]).r ((GI 5 48).F [AV.fresh 5 els,.int .i64 (k:Int),.fresh 5 [x]]).outs g ob κ:=by
  intro base cs hv0 hke hroom hnil cl ccell cvr;subst hv0;have hlen:=home0.len;have hc1:(k:Int)=(els.length:Int):=by omega
  have hcall:=gO base els.length (g0.cap (AH 0)) (g0.β (AH 2)) 0 (g0.cap (AH 2)) cs vs w hlen hroom hbig cl vl hnil ccell hvs v1c;rw[← hc1] at hcall;refine hcall.mono fun e' w' ⟨a1,a2⟩=>?_
  rw[a1];refine fin cs w.heap.size _ w' ((cs++vs).toArray++Builtin.zeroCells (Value.cells (.agg #[.string ⟨#[]⟩,.int .i64 0,.int .i64 0,.int .i64 0,.int .i64 0])) (grownCap w (els.length+1) (g0.cap (AH 0)) 71-(els.length+1))) 71 cvr ?_ ?_ hG1 (fun j hj=>?_) ?_ (.inl (Nat.le_refl _)) hfresh
  ·rw[a2];exact heap_alloc_new w.drew _
  ·rw[Array.size_append,JI,List.size_toArray,List.length_append,cl,vl];omega
  ·unfold QR;rw[agD,Array.getElem?_append_left (by rw[List.size_toArray,List.length_append,cl,vl];omega),List.getElem?_toArray]
   by_cases c:j<k*5
   ·rw[if_pos c,List.getElem?_append_left (by omega),gdE]
   ·rw[if_neg c,if_pos (by omega),List.getElem?_append_right (by omega),gdE,cl,hke]
  ·rw[a2];exact (AR.drew _ w).trans (AR.alloc _ _ _)
 rcases Nat.eq_zero_or_pos (g0.cap (AH 0)) with hz|hp
 ·have hlen:=home0.len;have hn0:els.length=0:=by omega
  have hc0:∀ i j,i<els.length->j<5->VR (AW F g0 (BI 0 [AV.fresh 5 els,.int .i64 (k:Int),.fresh 5 [x]])) w (([]:List Value).getD (i*5+j) undef) ((els.getD i .any).cells.getD j .any):=fun i j hi _=>by omega
  rcases hval0 with e0|⟨_,e0⟩
  ·exact atEnd (some ⟨g0.β (AH 0),0,none⟩) [] e0 (by omega) (by omega) (fun h=>by cases h) (by simp[hn0]) (fun _ _ j v h=>by simp at h) hc0
  ·exact atEnd none [] (by rw[e0,hn0,hz]) (by omega) (by omega) (fun _=>hn0) (by simp[hn0]) (fun _ h=>by cases h) hc0
 ·obtain⟨arr0,T0,hr0,hs0,cs,cl,cget,ccell,c1c,cvr⟩:=Yk home0 hp;have hlen:=home0.len
  have e0:v0 = .slice (some ⟨g0.β (AH 0),0,none⟩) els.length (g0.cap (AH 0)):=by
   rcases hval0 with e|⟨e,_⟩
   ·exact e
   ·omega
  have some0:∀ j,j<arr0.size->(w.cell? ⟨g0.β (AH 0),j,none⟩).isSome=true:=fun j hj=>by
   simp only[World.cell?,hr0];rw[Array.getElem?_eq_getElem hj];rfl
  have froz0:∀ j,w.frozen? ⟨g0.β (AH 0),j,none⟩=false:=fun j=>by simp[World.frozen?,hr0]
  have froz2:∀ j,w.frozen? ⟨g0.β (AH 2),j,none⟩=false:=fun j=>by simp[World.frozen?,hr2]
  have own0:∃ k',KW g0 (BI 0 [AV.fresh 5 els,.int .i64 (k:Int),.fresh 5 [x]]) k'∧g0.β k'=g0.β (AH 0):=⟨_,hl0 hp,rfl⟩;have hnF0:¬ F (g0.β (AH 0)):=hfr.nF _ (hl0 hp)
  by_cases hroom:els.length+1<=g0.cap (AH 0)
  ·have hsz0:(els.length+1)*5<=arr0.size:=by rw[hs0];omega
   by_cases hke:k=els.length
   ·have hc1:(k:Int)=(els.length:Int):=by omega
    have hcall:=gN (g0.β (AH 0)) els.length (g0.cap (AH 0)) (g0.β (AH 2)) 0 (g0.cap (AH 2)) vs w hroom hn63 vl (fun j hj=>some0 _ (by omega)) (fun j hj=>froz0 _) hvs v1c;rw[← hc1,← e0] at hcall;refine hcall.mono fun e' w' ⟨a1,a2⟩=>?_
    rw[a1];obtain⟨arr',b1,b2,b3⟩:=Ce (g0.β (AH 0)) vs (els.length*5) w arr0 T0 (0,0) hr0 (by omega);refine fin cs (g0.β (AH 0)) _ w' arr' T0 cvr (by rw[a2];exact b1) (by rw[b2,hs0]) hroom (fun j hj=>?_) ?_ (.inr own0) hnF0
    ·rw[b3];unfold QR
     by_cases c:j<k*5
     ·rw[if_neg (by omega),if_pos c,cget j (by omega)]
     ·rw[if_pos (by omega),if_neg c,if_pos (by omega),hke]
    ·rw[a2];exact (Cb _ _ _ _).mono fun b _ hb=>by subst hb;exact own0
   ·have hlt:k<els.length:=by omega
    have hcall:=shift (g0.β (AH 0)) els.length (g0.cap (AH 0)) k (g0.β (AH 2)) 0 (g0.cap (AH 2)) cs vs w hlt hroom hn63 (hne hp) cl vl ccell (fun j hj=>some0 _ (by omega)) (fun j hj=>froz0 _) hvs c1c v1c
     T2 T0 arr2.size arr0.size (by simp[World.shape?,hr2]) (by simp[World.shape?,hr0]) (by omega) (froz2 _) (froz2 _)
    rw[← e0] at hcall;refine hcall.mono fun e' w' ⟨a1,a2⟩=>?_
    rw[a1];have dl:(cs.drop (k*5)).length=(els.length-k)*5:=by rw[List.length_drop,cl,Nat.sub_mul]
    obtain⟨arr1,b1,b2,b3⟩:=Ce (g0.β (AH 0)) (cs.drop (k*5)) ((k+1)*5) w.drew arr0 T0 (0,0) hr0 (by rw[dl];omega);obtain⟨arr',c1,c2,c3⟩:=Ce (g0.β (AH 0)) vs (k*5) _ arr1 T0 (0,0) b1 (by omega);refine fin cs (g0.β (AH 0)) _ w' arr' T0 cvr (by rw[a2];exact c1) (by rw[c2,b2,hs0]) hroom (fun j hj=>?_) ?_ (.inr own0) hnF0
    ·rw[c3,b3,dl];unfold QR
     by_cases c:j<k*5
     ·rw[if_neg (by omega),if_neg (by omega),if_pos c,cget j (by omega)]
     ·rw[if_neg c]
      by_cases c':j<(k+1)*5
      ·rw[if_pos (by omega),if_pos c']
      ·rw[if_neg (by omega),if_pos (by omega),if_neg c',Mx]
       congr 1;omega
    ·rw[a2];refine AR.mono (S:=fun x=>x=g0.β (AH 0)) ?_ fun b _ hb=>by subst hb;exact own0
     exact ((AR.drew _ w).trans (Cb _ _ _ _)).trans (Cb _ _ _ _)
  ·by_cases hke:k=els.length
   ·exact atEnd (some ⟨g0.β (AH 0),0,none⟩) cs e0 hke (by omega) (fun h=>by cases h) cl (fun a h j v hj=>by
     cases h
     rw[Addr.add_lit,Nat.zero_add];exact ccell j v hj) cvr
   ·have hlt:k<els.length:=by omega
    have hcall:=grow (g0.β (AH 0)) els.length (g0.cap (AH 0)) k (g0.β (AH 2)) 0 (g0.cap (AH 2)) cs vs w hlt hlen (by omega) hbig cl vl ccell hvs c1c v1c;rw[← e0] at hcall;refine hcall.mono fun e' w' ⟨a1,a2⟩=>?_
    rw[a1];have dl:(cs.drop (k*5)).length=(els.length-k)*5:=by rw[List.length_drop,cl,Nat.sub_mul]
    generalize hG:grownCap w (els.length+1) (g0.cap (AH 0)) 71=G at hG1 a2 ⊢
    have hrow:((cs.take (k*5)).toArray++Builtin.zeroCells (Value.cells (.agg #[.string ⟨#[]⟩,.int .i64 0,.int .i64 0,.int .i64 0,.int .i64 0])) (els.length+1-k)++Builtin.zeroCells (Value.cells (.agg #[.string ⟨#[]⟩,.int .i64 0,.int .i64 0,.int .i64 0,.int .i64 0])) (G-(els.length+1))).size=G*5:=by
     rw[Array.size_append,Array.size_append,JI,JI,List.size_toArray,List.length_take,cl];omega
    have hrget:∀ j,j<k*5->((cs.take (k*5)).toArray++Builtin.zeroCells (Value.cells (.agg #[.string ⟨#[]⟩,.int .i64 0,.int .i64 0,.int .i64 0,.int .i64 0])) (els.length+1-k)++Builtin.zeroCells (Value.cells (.agg #[.string ⟨#[]⟩,.int .i64 0,.int .i64 0,.int .i64 0,.int .i64 0])) (G-(els.length+1))).getD j undef=cs.getD j undef:=fun j hj=>by
     have h1:j<(cs.take (k*5)).toArray.size:=by rw[List.size_toArray,List.length_take,cl];omega
     rw[agD,Array.getElem?_append_left (by rw[Array.size_append];omega),Array.getElem?_append_left h1,List.getElem?_toArray,List.getElem?_take,if_pos hj,gdE]
    generalize ((cs.take (k*5)).toArray++Builtin.zeroCells (Value.cells (.agg #[.string ⟨#[]⟩,.int .i64 0,.int .i64 0,.int .i64 0,.int .i64 0])) (els.length+1-k)++Builtin.zeroCells (Value.cells (.agg #[.string ⟨#[]⟩,.int .i64 0,.int .i64 0,.int .i64 0,.int .i64 0])) (G-(els.length+1)))=ROW at a2 hrow hrget;have b0:((w.alloc (.cells ROW 71)).drew).heap[w.heap.size]? = some (.cells ROW 71 (0,0)):=heap_alloc_new w _;obtain⟨arr1,b1,b2,b3⟩:=Ce w.heap.size vs (k*5) _ ROW 71 (0,0) b0 (by rw[hrow];omega);have b1':(((w.alloc (.cells ROW 71)).drew.setCells w.heap.size (k*5) vs).drew).heap[w.heap.size]? = some (.cells arr1 71 (0,0)):=b1;obtain⟨arr',c1,c2,c3⟩:=Ce w.heap.size (cs.drop (k*5)) ((k+1)*5) _ arr1 71 (0,0) b1' (by rw[dl,b2,hrow];omega);refine fin cs w.heap.size _ w' arr' 71 cvr (by rw[a2];exact c1) (by rw[c2,b2,hrow]) hG1 (fun j hj=>?_) ?_ (.inl (Nat.le_refl _)) hfresh
    ·rw[c3,b3,dl];unfold QR
     by_cases c:j<k*5
     ·rw[if_neg (by omega),if_neg (by omega),if_pos c,hrget j c]
     ·rw[if_neg c]
      by_cases c':j<(k+1)*5
      ·rw[if_neg (by omega),if_pos (by omega),if_pos c']
      ·rw[if_pos (by omega),if_neg c',Mx]
       congr 1;omega
    ·rw[a2];refine AR.mono (S:=fun x=>x=w.heap.size) ?_ fun b hb hb2=>by omega
     exact ((((AR.alloc _ w _).trans (AR.drew _ _)).trans (Cb _ _ _ _)).trans (AR.drew _ _)).trans (Cb _ _ _ _)
end Go.Proofs.YteaicgcfpcklkaaGreatDoor.insStar
namespace Go.Proofs.YteaicgcfpcklkaaGreatDoor
open Go Go.RowKit
def Iv:Ak:=GI 5 48
theorem oE:Iv.modes=[.mov,.bor,.mov]:=rfl
theorem lB:Iv.flat=false:=rfl
attribute [go_sem] oE lB
theorem ku{α:Type}(f:α->AV){l:List α}{i:Int}{v y_:List α}(h:gF 48 l i v=some y_):Iv.F [.fresh 5 (List.map f l),.int .i64 i,.fresh 5 (List.map f v)]=⟨true,.fresh 5 (List.map f y_),[.any,.any,.any]⟩:=kv 5 f h
theorem ji:AQ Tryz.prog 174 Iv:=insStar.sound
end Go.Proofs.YteaicgcfpcklkaaGreatDoor
