/- Lemmas and walks, several texts in one. No condition. -/
import Derived.Test.YteaicgcfpcklkaaGreatDoorP6
import Derived.Test.YteaicgcfpcklkaaGreatDoorP7
import Derived.Test.YteaicgcfpcklkaaGreatDoorRows
import Derived.WalkKit
import Derived.RangeFuncNested
import Derived.RangeFuncBox
import Derived.RangeFuncBound
import Derived.RangeFuncCalls
import Derived.RangeFuncLeaves
import Derived.Shelf.Abstract
import Derived.Shelf.RegionOpen
import Derived.OwnWalkIn
import Derived.TacticsInMore
import Derived.LoopNIn
import Derived.LoopIn
import Derived.Lib.Hide
set_option linter.unusedSimpArgs false
set_option linter.unusedVariables false
set_option maxRecDepth 100000
set_option maxHeartbeats 4000000
open Go.IntKind (i64 u64)
noncomputable section
namespace Go.Proofs.YteaicgcfpcklkaaGreatDoor
open Go Go.RowKit
def lW:List AV->Rs
 | [.str l]=>match Cv l with
  | some y=>⟨true,.tup [Iy y.1,.bool y.2],[.any]⟩
  | none=>Rs.bad
 | _=>Rs.bad
def Du:Ak:=⟨[.bor],false,lW⟩
theorem Kg{line:List UInt8}{y_:HA×Bool}(h:Cv line=some y_):Du.F [.str line]=⟨true,.tup [Iy y_.1,.bool y_.2],[.any]⟩:=by
 show (match Cv line with
  | some y=>(⟨true,.tup [Iy y.1,.bool y.2],[.any]⟩:Rs)
  | none=>Rs.bad)=_
 rw[h]
theorem Ql:Du.modes=[.bor]:=rfl
theorem Pl:Du.flat=false:=rfl
attribute [go_sem] Ql Pl
theorem lV{args:List AV}(h:(lW args).ok=true):∃ l y,Cv l=some y∧args=[.str l]:=by
 unfold lW at h;split at h
 ·rename_i l;split at h
  ·rename_i y hy;exact⟨l,y,hy,rfl⟩
  ·cases h
 ·cases h
theorem QE{f:FuncId}{C:Ak}{fu:Func}{c:Code}(hC:AQ Tryz.prog f C)(hf:Tryz.prog.funcs[f]? = some fu)(hb:fu.body=some c)(hn:(fu.name == "runtime.NumGoroutine")=false)(hm:C.modes=[.bor]){X:List UInt8}{W:World}(hg:GT (fun _=>False) W){r:AV}{outs:List AV}(hF:C.F [.str X]=⟨true,r,outs⟩):
  Calls Tryz.prog f #[.string ⟨X.toArray⟩] W fun e W'=>∃ v,e = .returned v∧AR (fun _=>False) W W'∧VR (fun _=>False) W' v (Ny r) :=
 NA hC hf hb hn (args:=[.str X]) (vargs:=#[.string ⟨X.toArray⟩]) rfl (by rw[hm];rfl) rfl (fun j hj=>by
  have hj':j<1:=by simpa using hj
  match j,hj' with
  | 0,_=>exact .str) hg hF
theorem oO{S:Nat->Prop}{w:World}{u:Value}{z:Int}{b:Bool}(h:VR S w u (.tup [.int .i64 z,.bool b])):u = .tuple #[.int .i64 z,.bool b]:=by
 cases h with
 | @tup cs as_ hn h=>
  have h0:=h 0 (by simp);have h1:=h 1 (by simp);obtain⟨l⟩:=cs
  match l,hn with
  | [a,c],_=>
   have h0:VR S w a (.int .i64 z):=h0;have h1:VR S w c (.bool b):=h1;cases h0;cases h1;rfl
theorem ABM{S:Nat->Prop}{w:World}{u:Value}{z:List UInt8}{b:Bool}(h:VR S w u (.tup [.str z,.bool b])):u = .tuple #[.string ⟨z.toArray⟩,.bool b]:=by
 cases h with
 | @tup cs as_ hn h=>
  have h0:=h 0 (by simp);have h1:=h 1 (by simp);obtain⟨l⟩:=cs
  match l,hn with
  | [a,c],_=>
   have h0:VR S w a (.str z):=h0;have h1:VR S w c (.bool b):=h1;cases h0;cases h1;rfl
theorem ik{O:Nat->Prop}{line:List UInt8}{y:HA×Bool}(h:Cv line=some y){w:World}(hO:∀ b,O b->b<w.heap.size)(hgO:GT O w):
  Calls Tryz.prog 30 #[.string ⟨line.toArray⟩] w (rdc.RdEnd O y w):=by
 unfold Cv at h;have hg:GT (fun _=>False) w:=hgO.mono (AR.refl _ _) fun _ _ c=>c.elim
 obtain⟨words,hsp,h⟩:=AB h;obtain⟨hck,h⟩:=AC h;simp only[baT,dtE] at hck;obtain⟨kinds,hkf,h⟩:=AB h;obtain⟨dw,hdw,h⟩:=AB h;obtain⟨c,hct,h⟩:=AB h;have hgA:∀ W,Below w.heap.size w W->GT (fun _=>False) W:=fun W hB=>hg.mono (FM hB) fun _ _ c=>c
 have hSP:Calls Tryz.prog 50 #[.string ⟨line.toArray⟩,.string ⟨#[32]⟩] (w.alloc (.cells #[.slice none 0 0,.slice none 0 0,.bool false,.bool false] 75)) fun e w1=>∃ v,e = .returned v∧Below (w.heap.size+1) (w.alloc (.cells #[.slice none 0 0,.slice none 0 0,.bool false,.bool false] 75)) w1∧VR (fun k=>k=w.heap.size∨O k) w1 v (.sl 1 (List.map AV.str words)):=by
  refine (kS (O:=fun k=>k=w.heap.size∨O k) ib Tryz.func50 rfl (by decide +kernel) (args:=[.str line,.str [32]]) (vargs:=#[.string ⟨line.toArray⟩,.string ⟨#[32]⟩]) rfl (by rw[ko];rfl) rfl (fun j hj=>?_) (fun b e=>by
   rcases e with e|e
   ·simp;omega
   ·have:=hO b e;simp;omega) (hgO.mono (AR.alloc _ w _) fun b hb e=>by
   rcases e with e|e
   ·omega
   ·exact e) (ep hsp)).mono fun e w' ⟨u,h1,h2,h3⟩=>⟨u,h1,?_,h3⟩
  ·have hj':j<2:=by simpa using hj
   match j,hj' with
   | 0,_=>exact .str
   | 1,_=>exact .str
  ·have:=CW h2;simpa using this
 have hKF:∀ W,Below w.heap.size w W->Calls Tryz.prog 51 #[plot.strV (words.getD 0 default)] W fun e W'=>e = .returned (.string ⟨kinds.toArray⟩)∧Below W.heap.size W W':=fun W hB=>by
  refine (QE s_38 Tryz.func51 rfl (by decide +kernel) AOF (hgA W hB) (APt hkf)).mono fun e w' ⟨u,h1,h2,h3⟩=>?_
  have h3:VR _ w' u (.str kinds):=h3;cases h3
  exact⟨h1,CW h2⟩
 have hDW:∀ W,Below w.heap.size w W->Calls Tryz.prog 53 #[] W fun e W'=>∃ v,e = .returned v∧Below W.heap.size W W'∧∀ W2,Below W'.heap.size W' W2->Calls Tryz.prog 52 #[v,plot.strV (words.getD 0 default)] W2 fun e W3=>e = .returned (.bool c)∧Below W2.heap.size W2 W3:=fun W hB=>by
  refine (NA s_39 Tryz.func53 rfl (by decide +kernel) (args:=[]) (vargs:=#[]) rfl (by rw[AOE];rfl) rfl (fun j hj=>absurd hj (by simp)) (hgA W hB) (APs hdw)).mono fun e w' ⟨u,h1,h2,h3⟩=>⟨u,h1,CW h2,fun W2 hB2=>?_⟩
  have h3:VR (fun _=>False) w' u (.sl 1 (List.map AV.str dw)):=h3;have hB':Below w.heap.size w W2:=(hB.trans ((CW h2).mono hB.size)).trans (hB2.mono (Nat.le_trans hB.size h2.size));refine (NA s_41 Tryz.func52 rfl (by decide +kernel) (args:=[.sl 1 (List.map AV.str dw),.str (words.getD 0 default)]) (vargs:=#[u,plot.strV (words.getD 0 default)]) rfl (by rw[AOD];rfl) rfl (fun j hj=>?_) (hgA W2 hB') (APq hct)).mono fun e w'' ⟨u2,q1,q2,q3⟩=>?_
  ·have hj':j<2:=by simpa using hj
   match j,hj' with
   | 0,_=>exact h3.mono (FM hB2) fun _ _ c=>c
   | 1,_=>exact .str
  ·have q3:VR _ w'' u2 (.bool c):=q3;cases q3
   exact⟨q1,CW q2⟩
 split at h
 ·rename_i hcond;cases h
  have hno:c=false∨¬ (words.length:Int)=(kinds.length:Int)+1:=by
   simp only[Bool.or_eq_true,Bool.not_eq_true',beq_eq_false_iff_ne] at hcond;exact hcond
  have hkl:kinds.length<=1099511627776:=by
   unfold BS at hkf
   repeat' (first|(split at hkf)|(cases hkf;simp))
  refine rdc.read_none O line words.length (words.getD 0 default) kinds c w hck.1 hno hck.2 hkl (hSP.mono ?_) hKF hDW;rintro e w1 ⟨v,rfl,hb,hv⟩;obtain⟨b,off,cap,rfl,hbl,_,hat,_⟩:=rdc.words_of hv hck.1;exact⟨b,off,cap,rfl,hb,hbl,hat 0 hck.1⟩
 ·rename_i hcond;obtain⟨y',hy,h⟩:=AB h;cases h
  obtain⟨rfl,hlk⟩:c=true∧(words.length:Int)=(kinds.length:Int)+1:=by
   cases c with
   | false=>exact absurd rfl hcond
   | true=>exact⟨rfl,by simpa using hcond⟩
  refine rdc.read_all O line words.length words (words.getD 0 default) rfl kinds y' w hO rfl hck.1 (by omega) hck.2 hy hSP hKF hDW ?_ ?_ ?_
  ·intro X q W hB hX;refine (QE Yg Tryz.func54 rfl (by decide +kernel) kq (hgA W hB) (NG hX)).mono fun e w' ⟨u,h1,h2,h3⟩=>?_
   have h3:VR _ w' u (.tup [.int .i64 q.1,.bool q.2]):=h3;rw[oO h3] at h1;exact⟨h1,CW h2⟩
  ·intro X q W hB hX;refine (QE s_48 Tryz.func55 rfl (by decide +kernel) AOB (hgA W hB) (APn hX)).mono fun e w' ⟨u,h1,h2,h3⟩=>?_
   have h3:VR _ w' u (.tup [.int .i64 q.1,.bool q.2]):=h3;rw[oO h3] at h1;exact⟨h1,CW h2⟩
  ·intro X q W hB hX;refine (NA AMb Tryz.func56 rfl (by decide +kernel) (args:=[.str X,.str [60]]) (vargs:=#[plot.strV X,.string ⟨#[60]⟩]) rfl (by rw[AOC];rfl) rfl (fun j hj=>?_) (hgA W hB) (AFu hX)).mono fun e w' ⟨u,h1,h2,h3⟩=>?_
   ·have hj':j<2:=by simpa using hj
    match j,hj' with
    | 0,_=>exact .str
    | 1,_=>exact .str
   ·have h3:VR _ w' u (.tup [.str q.1,.bool q.2]):=h3;rw[ABM h3] at h1;exact⟨h1,CW h2⟩
theorem cE{F:Nat->Prop}{g:Gh}{b:Nat}(h:AW F g [] b):F b:=by
 rcases h with h|⟨k,hk,_⟩
 ·exact h
 ·obtain⟨hm,hg⟩:=hk.1;simp[AK] at hg
theorem QN:AQ Tryz.prog 30 Du:=by
 refine⟨fun e=>Bool.noConfusion e,fun F g0 w args vargs hsh hsz hfr hok=>⟨fun e=>Bool.noConfusion e,?_⟩⟩;obtain⟨l,y,hy,rfl⟩:=lV hok;have h0:=FD hfr (i:=0) (by simp);rw[MP hsz];generalize vargs.getD 0 undef=v at h0;cases h0
 have he:=Go.Proofs.enters_of (P:=Tryz.prog) Tryz.func30 (by kernel_rfl) rfl;unfold CZ;rw[he,Kg hy];refine (ik (O:=AW F g0 []) hy ?_ (hfr.tab.mono (AR.refl _ _) fun _ _ c=>?_)).mono ?_
 ·exact fun b hb=>hfr.fb b (cE hb)
 ·exact .inl (cE c)
 rintro e' w' ⟨ws,nu,rfl,hS,hv1,hv2⟩;refine⟨_,g0,[],id,rfl,Jj hS ⟨_,rfl,rfl,fun j hj=>?_⟩ (fun i hi=>?_) (vI rfl)⟩
 ·match j,hj with
  | 0,_=>
   refine .agg rfl (fun k hk=>?_) (fun k hk=>?_)
   ·match k,hk with
    | 0,_=>rfl
    | 1,_=>rfl
    | 2,_=>rfl
    | 3,_=>rfl
   ·match k,hk with
    | 0,_=>exact hv1
    | 1,_=>exact hv2
    | 2,_=>exact .bool
    | 3,_=>exact .bool
  | 1,_=>exact .bool
 ·obtain⟨j,_,hj,hf⟩:=hi
  match j,hj with
  | 0,_=>exact absurd hf Bool.false_ne_true
  | 1,_=>exact absurd hf Bool.false_ne_true
end Go.Proofs.YteaicgcfpcklkaaGreatDoor
namespace Go.Proofs.YteaicgcfpcklkaaGreatDoor
open Go Go.RowKit
end Go.Proofs.YteaicgcfpcklkaaGreatDoor
namespace Go.Proofs.YteaicgcfpcklkaaGreatDoor.last
open Go Go.RowKit Go.Shelf Go.Proofs.YteaicgcfpcklkaaGreatDoor
attribute [local go_sem] Oper.semAt_some
def Ni(e:AD):Value:=.agg #[.int .i64 e.Time,.string ⟨e.Star.toArray⟩,.string ⟨e.Observer.toArray⟩,.int .i64 e.Mag,.bool e.Fainter]
structure lD(W:World)(b off:Nat)(l:List AD):Prop where
  c0:∀ k,k<l.length->W.cell? ⟨b,off+k*5,none⟩=some (.int .i64 (l.getD k default).Time)
  c1:∀ k,k<l.length->W.cell? ⟨b,off+k*5+1,none⟩=some (.string ⟨(l.getD k default).Star.toArray⟩)
  c2:∀ k,k<l.length->W.cell? ⟨b,off+k*5+2,none⟩=some (.string ⟨(l.getD k default).Observer.toArray⟩)
  c3:∀ k,k<l.length->W.cell? ⟨b,off+k*5+3,none⟩=some (.int .i64 (l.getD k default).Mag)
  c4:∀ k,k<l.length->W.cell? ⟨b,off+k*5+4,none⟩=some (.bool (l.getD k default).Fainter)
theorem lD.below{n₀:Nat}{A B:World}(h:Below n₀ A B){b off:Nat}{l:List AD}(hb:b<n₀)(he:lD A b off l):lD B b off l :=
  ⟨fun k hk=>(h.cell (p:=⟨b,_,none⟩) hb).trans (he.c0 k hk),fun k hk=>(h.cell (p:=⟨b,_,none⟩) hb).trans (he.c1 k hk),fun k hk=>(h.cell (p:=⟨b,_,none⟩) hb).trans (he.c2 k hk),
   fun k hk=>(h.cell (p:=⟨b,_,none⟩) hb).trans (he.c3 k hk),fun k hk=>(h.cell (p:=⟨b,_,none⟩) hb).trans (he.c4 k hk)⟩
def dn(n k:Nat):List Nat:=(List.range k).map fun j=>n-1-j
theorem ph(n k:Nat):dn n (k+1)=dn n k++[n-1-k]:=by simp[dn,List.range_succ]
theorem tt(n k:Nat):(dn n k).length=k:=by simp[dn]
theorem ANz(F:Fence)(n:Nat)(hf:F.fn 147)(hro:F.round=none)(hn:1<=n)(l Bs n₀ b off len cap:Nat)(L:List AD)(hlen:len=L.length)(h100:len<=100)(hb:b<n₀)(hBn:Bs<n₀)(J Jx:List Nat->World->Prop)
    (hY:∀ pre x W,J pre W->pre.length<len->YieldAt F (n-1) Tryz.prog l #[.int .i64 (x:Nat),Ni (L.getD x default)] W fun e W'=>
      (e = .returned (.bool true)∧J (pre++[x]) W'∧Below n₀ W W')∨(e = .returned (.bool false)∧Jx (pre++[x]) W'))
    (W:World) (hBs:W.cell? ⟨Bs,0,none⟩=some (.slice (some ⟨b,off,none⟩) len cap)) (hc:lD W b off L) (h0:J [] W) :
    CallsIn F n Tryz.prog 147 #[.func (.yield l) #[] #[],.pointer (some ⟨Bs,0,none⟩)] W fun e W'=>(∃ v,e = .returned v) ∧
      ((∃ ys,ys=dn len len∧J ys W')∨(∃ pre,(∃ k,k<=len∧pre=dn len k)∧Jx pre W')):=by
  refine callsIn_of_wp Tryz.func147 rfl hf ?_ hro;simp only[Tryz.ntmps147,List.size_toArray,List.length_cons,List.length_nil,Nat.reduceAdd,Nat.reduceSub,Array.replicate_succ,Array.replicate_zero,List.push_toArray,List.append_toArray,List.nil_append,List.cons_append];have hw1:i64.wrap ((len:Int)-1)=(len:Int)-1:=wrap_i64 (by omega) (by omega)
  gi_wp2
  gi_loopw [3] (fun i wr=>(∃ k j:Nat,k+(j+1)=len∧i = .int .i64 j∧J (dn len k) wr∧Below n₀ W wr)∨(i = .int .i64 (-1)∧J (dn len len) wr∧Below n₀ W wr))
    (fun i _=>(intOf i+1).toNat)
  case atStart=>
    rcases Nat.eq_zero_or_pos len with h|h
    · refine .inr ⟨?_,?_,Below.refl _ _⟩
      · congr 1;omega
      · rw[h];exact h0
    · refine .inl ⟨0,len-1,by omega,?_,h0,Below.refl _ _⟩
      congr 1
      omega
  case round=>
    rcases hrel with⟨k,j,hk,rfl,hJs,hnx⟩|⟨rfl,hJs,hnx⟩
    · have hj:j<L.length:=by omega
      have hcs:=hc.below hnx hb;have q0:=hcs.c0 j hj;have q1:=hcs.c1 j hj;have q2:=hcs.c2 j hj;have q3:=hcs.c3 j hj;have q4:=hcs.c4 j hj;have hbs:=(hnx.cell (p:=⟨Bs,0,none⟩) hBn).trans hBs;obtain⟨fn,tmps,assign,body,hy,hR⟩:=hY _ j wr hJs (by rw[tt];omega);obtain⟨x,hx⟩:∃ x,x=L.getD j default:=⟨_,rfl⟩;rw[← hx] at q0 q1 q2 q3 q4 hy;unfold Ni at hy;clear hx hcs hc hY
      gi_wp2
      refine hR.mono ?_;rintro e W3 (⟨rfl,hJ3,hk3⟩|⟨rfl,hJx3⟩)
      · gi_wp2
        go_roundw
        case rel=>
          have e:dn len (k+1)=dn len k++[j]:=by rw[ph,show len-1-k=j by omega]
          rcases Nat.eq_zero_or_pos j with h|h
          · refine .inr ⟨?_,?_,hnx.trans hk3⟩
            · rw[h];rfl
            · rw[show len=k+1 by omega] at e ⊢;rw[e];rw[show k+1=len by omega];exact hJ3
          · refine .inl ⟨k+1,j-1,by omega,?_,by rw[e];exact hJ3,hnx.trans hk3⟩
            congr 1
            omega
        case measure=>simp[intOf]
      · gi_wp2
        refine bodyPost_ret (results_none rfl _ _ _) rfl ?_;exact⟨⟨_,rfl⟩,.inr ⟨_,⟨k+1,by omega,by rw[ph,show len-1-k=j by omega]⟩,hJx3⟩⟩
    · gi_wp2
      go_end0
      exact⟨⟨_,rfl⟩,.inl ⟨_,rfl,hJs⟩⟩
theorem vH(F:Fence)(n:Nat)(hf:F.fn 147)(hro:F.round=none)(l Bs:Nat)(a:Option Addr)(cap:Nat)(J:List Nat->World->Prop)(W:World)(hBs:W.cell? ⟨Bs,0,none⟩=some (.slice a 0 cap))(h0:J [] W):
    CallsIn F n Tryz.prog 147 #[.func (.yield l) #[] #[],.pointer (some ⟨Bs,0,none⟩)] W fun e W'=>(∃ v,e = .returned v)∧J [] W':=by
  refine callsIn_of_wp Tryz.func147 rfl hf ?_ hro;simp only[Tryz.ntmps147,List.size_toArray,List.length_cons,List.length_nil,Nat.reduceAdd,Nat.reduceSub,Array.replicate_succ,Array.replicate_zero,List.push_toArray,List.append_toArray,List.nil_append,List.cons_append]
  gi_wp2
  gi_loopw [3] (fun i wr=>i = .int .i64 (-1)∧J [] wr) (fun _ _=>0)
  case atStart=>exact⟨rfl,h0⟩
  case round=>
    obtain⟨rfl,hJs⟩:=hrel
    gi_wp2
    go_end0
    exact⟨⟨_,rfl⟩,hJs⟩
theorem AEO(F:Fence)(n:Nat)(hf:F.fn 98)(hro:F.round=none)(a:Option Addr)(len cap:Nat)(w:World):
    CallsIn F n Tryz.prog 98 #[.slice a len cap] w fun e w'=>e = .returned (.func (.func 147) #[] #[.pointer (some ⟨w.heap.size,0,none⟩)])∧w'=w.alloc (.cells #[.slice a len cap] 27):=by
  refine callsIn_of_wp Tryz.func98 rfl hf ?_ hro;simp only[Tryz.ntmps98,List.size_toArray,List.length_cons,List.length_nil,Nat.reduceAdd,Nat.reduceSub,Array.replicate_succ,Array.replicate_zero,List.push_toArray,List.append_toArray,List.nil_append,List.cons_append]
  gi_wp2
  go_ret
  exact⟨rfl,rfl⟩
def gx(n₀:Nat)(W:World)(sv:Value)(L:List AD):Prop :=
  ∃ a cap,sv = .slice a L.length cap∧(0<L.length->∃ b off,a=some ⟨b,off,none⟩∧b<n₀∧lD W b off L)
theorem AAR(F:Fence)(n:Nat)(hf:F.fn 147)(hro:F.round=none)(hn:1<=n)(Bs:Nat)(sv:Value)(L:List AD)(h100:L.length<=100)(w:World)(hBs:Bs<w.heap.size)
    (hc:w.cell? ⟨Bs,0,none⟩=some sv) (hI:gx w.heap.size w sv L) :
    SeqStopsK F n Tryz.prog 147 #[.pointer (some ⟨Bs,0,none⟩)] (fun x:Nat=>#[Value.int .i64 (x:Int),Ni (L.getD x default)]) (Below w.heap.size) (fun ys=>ys=dn L.length L.length)
      (fun pre=>∃ k,k<=L.length∧pre=dn L.length k) L.length w:=fun l J Jx W hW _ _ hY h0=>by
  have hc':=(hW.cell (p:=⟨Bs,0,none⟩) hBs).trans hc;obtain⟨a,cap,rfl,hp⟩:=hI;rcases Nat.eq_zero_or_pos L.length with h|h
  · rw[h] at hc';refine (vH F n hf hro l Bs a cap J W hc' h0).mono fun e W' ⟨he,hj⟩=>⟨he,.inl ⟨[],by rw[h];rfl,hj⟩⟩
  · obtain⟨b,off,rfl,hb,he⟩:=hp h;exact ANz F n hf hro hn l Bs w.heap.size b off L.length cap L rfl h100 hb hBs J Jx hY W hc' (he.below hW hb) h0
theorem Pw{w w':World}(h:AR (fun _=>False) w w'):Below w.heap.size w w':=⟨h.os,h.tape,h.output,h.size,fun b hb=>h.block b hb fun c=>c⟩
theorem AFG{w w1:World}{x y z:Obj}(h:Below (((w.alloc x).alloc y).alloc z).heap.size (((w.alloc x).alloc y).alloc z) w1):AR (fun _=>False) w w1 :=
  (((AR.alloc _ _ _).trans (AR.alloc _ _ _)).trans (AR.alloc _ _ _)).trans ⟨h.os,h.tape,h.output,h.size,fun b hb _=>h.block b hb⟩
theorem gx.below{n₀:Nat}{A B:World}(h:Below n₀ A B){sv:Value}{L:List AD}:gx n₀ A sv L->gx n₀ B sv L
  | ⟨a,cap,e,hp⟩=>⟨a,cap,e,fun q=>by obtain⟨b,off,e1,e2,e3⟩:=hp q;exact⟨b,off,e1,e2,e3.below h e2⟩⟩
theorem gx.le{n₀ n₁:Nat}{A:World}(h:n₀<=n₁){sv:Value}{L:List AD}:gx n₀ A sv L->gx n₁ A sv L
  | ⟨a,cap,e,hp⟩=>⟨a,cap,e,fun q=>by obtain⟨b,off,e1,e2,e3⟩:=hp q;exact⟨b,off,e1,by omega,e3⟩⟩
def Nx(L:List AD)(s:List UInt8):AD×Int :=
  match L.reverse.find? (fun e=>e.Star==s) with
  | some e=>(e,0)
  | none=>(AD.mk 0 [] [] 0 false,3)
def Gq(e:AD):Array Value:=#[.int .i64 e.Time,.string ⟨e.Star.toArray⟩,.string ⟨e.Observer.toArray⟩,.int .i64 e.Mag,.bool e.Fainter]
theorem wT(L:List AD):L.reverse=(dn L.length L.length).map fun j=>L.getD j default:=by
  apply List.ext_getElem
  · simp[dn]
  · intro i h1 h2;have hi:i<L.length:=by simpa using h1
    simp only[dn,List.getElem_reverse,List.getElem_map,List.getElem_range];rw[gdE,geE (by omega)];rfl
theorem mj{L:List AD}{s:List UInt8}(h:∀ x∈dn L.length L.length,((L.getD x default).Star==s)=false):Nx L s=(AD.mk 0 [] [] 0 false,3):=by
  have:L.reverse.find? (fun e=>e.Star==s)=none:=by
    rw[List.find?_eq_none];intro e he;rw[wT] at he;obtain⟨j,hj,rfl⟩:=List.mem_map.1 he;rw[h j hj];simp
  unfold Nx;rw[this]
theorem mi{L:List AD}{s:List UInt8}{k last:Nat}{ini:List Nat}(hk:k<=L.length)(he:dn L.length k=ini++[last])(h:∀ x∈ini,((L.getD x default).Star==s)=false)(hl:((L.getD last default).Star==s)=true):
    Nx L s=(L.getD last default,0):=by
  have hp:dn L.length L.length=dn L.length k++(dn L.length L.length).drop k:=by
    have:(dn L.length L.length).take k=dn L.length k:=by
      unfold dn;rw[← List.map_take,List.take_range,Nat.min_eq_left hk]
    rw[← this,List.take_append_drop]
  have:L.reverse.find? (fun e=>e.Star==s)=some (L.getD last default):=by
    rw[wT,hp,he,List.map_append,List.map_append,List.append_assoc,List.find?_append]
    have hn:(ini.map fun j=>L.getD j default).find? (fun e=>e.Star==s)=none:=by
      rw[List.find?_eq_none];intro e he;obtain⟨j,hj,rfl⟩:=List.mem_map.1 he;rw[h j hj];simp
    rw[hn];simp only[List.map_cons,List.map_nil,List.cons_append,List.nil_append,Option.none_or];rw[List.find?_cons,hl]
  unfold Nx;rw[this]
def Jz(W:World)(b:Nat)(t:TypeId)(e:AD):Prop:=W.heap[b]? = some (.cells (Gq e) t (0,0))
theorem Jz.lt{W:World}{b:Nat}{t:TypeId}{e:AD}(h:Jz W b t e):b<W.heap.size:=(Array.getElem?_eq_some_iff.1 h).1
theorem Jz.below{n:Nat}{A B:World}(hB:Below n A B){b:Nat}{t:TypeId}{e:AD}(hb:b<n)(h:Jz A b t e):Jz B b t e:=(hB.block b hb).trans h
theorem Jz.own(b:Nat)(t:TypeId)(f:Unit->AD):Own (fun (_:List Nat) W=>Jz W b t (f ())):=fun s X Y row hs hg hrow=>(grownBy_keeps_cells hg hrow hs rfl).trans hs
theorem Jz.cells{W:World}{b:Nat}{t:TypeId}{X:AD}(bX:Jz W b t X):W.cell? ⟨b,0,none⟩=some (.int .i64 X.Time)∧W.cell? ⟨b,1,none⟩=some (.string ⟨X.Star.toArray⟩)∧W.cell? ⟨b,2,none⟩=some (.string ⟨X.Observer.toArray⟩)∧W.cell? ⟨b,3,none⟩=some (.int .i64 X.Mag)∧W.cell? ⟨b,4,none⟩=some (.bool X.Fainter):=by
  refine⟨?_,?_,?_,?_,?_⟩<;>simp[World.cell?,show W.heap[b]? = _ from bX,Gq]
theorem AGa{W:World}{b n:Nat}{t:TypeId}{e X:AD}(hR:Jz W b t e)(hn:n<=b):Jz (W.setCells b 0 (Gq X).toList) b t X∧Below n W (W.setCells b 0 (Gq X).toList)∧KeepsOthers W (W.setCells b 0 (Gq X).toList) ∧
    ∀ c T v,c≠b->Boxed W c T v->Boxed (W.setCells b 0 (Gq X).toList) c T v:=by
  refine⟨?_,?_,?_,?_⟩
  · simp only[Gq,World.setCells,World.setCell,Jz];unfold Jz at hR;simp[Array.getElem?_modify,hR,Gq]
  · simp only[Gq,World.setCells];exact (((((Below.refl _ W).setCell (p:=⟨b,0,none⟩) hn _).setCell (p:=⟨b,1,none⟩) hn _).setCell (p:=⟨b,2,none⟩) hn _).setCell (p:=⟨b,3,none⟩) hn _).setCell (p:=⟨b,4,none⟩) hn _
  · simp only[Gq,World.setCells];exact ((((KeepsOthers.setCell W _ _).trans (KeepsOthers.setCell _ _ _)).trans (KeepsOthers.setCell _ _ _)).trans (KeepsOthers.setCell _ _ _)).trans (KeepsOthers.setCell _ _ _)
  · intro c T v hc h;have ho:∀ (j:Nat) (u:Value) (Z:World),Boxed Z c T v->Boxed (Z.setCell ⟨b,j,none⟩ u) c T v:=fun j u Z h=>(Below.heap_setCell _ _ _ _ hc).trans h
    simp only[Gq,World.setCells];exact ho _ _ _ (ho _ _ _ (ho _ _ _ (ho _ _ _ (ho _ _ _ h))))
theorem ACM(F:Fence)(n:Nat)(f0:F.fn 59)(f1:F.fn 98)(f2:F.fn 147)(f3:F.fn 25)(f4:F.fn 74)(hro:F.round=none)(hn:5<=n)(a:Option Addr)(len cap:Nat)(L:List AD)(hlen:len=L.length)(h100:L.length<=100)(s:List UInt8)(star:ByteArray)(hstar:star=⟨s.toArray⟩)(w:World)(hI:gx w.heap.size w (.slice a len cap) L)
    (hVE:∀ x y z,CallsIn F (n-1) Tryz.prog 25 #[.slice a len cap] (((w.alloc x).alloc y).alloc z) fun e w''=>e = .returned (.bool true)∧Below (((w.alloc x).alloc y).alloc z).heap.size (((w.alloc x).alloc y).alloc z) w'')
    (hIN:∀ w',AR (fun _=>False) w w'->CallsIn F (n-1) Tryz.prog 74 #[.string star] w' fun e w''=>e = .returned (.bool true)∧Below w'.heap.size w' w'') :
    CallsIn F n Tryz.prog 59 #[.slice a len cap,.string star] w fun e W'=>e = .returned (.tuple #[Ni (Nx L s).1,.int .i64 (Nx L s).2])∧Below w.heap.size w W':=by
  have h1:1<=n:=by omega
  refine callsIn_of_wp_marks Tryz.func59 rfl f0 ?_ hro;simp only[Tryz.ntmps59,List.size_toArray,List.length_cons,List.length_nil,Nat.reduceAdd,Nat.reduceSub,Array.replicate_succ,Array.replicate_zero,List.push_toArray,List.append_toArray,List.nil_append,List.cons_append];have hIN':=Lib.hid hIN;have hVE':=Lib.hid hVE;have hI':=Lib.hid hI;have hlen':=Lib.hid hlen;have hstar':=Lib.hid hstar;have h100':=Lib.hid h100;clear hIN hVE hI hlen hstar h100
  gi_wp2_with (first
    | (gi_at_call 25;refine (hVE'.out _ _ _).mono ?_;rintro e w1 ⟨rfl,hb1⟩;have hw1:=AFG hb1;have hcs:=(hb1.cell (p:=⟨w.heap.size,0,none⟩) (by simp;omega)).trans (((Boxed.new w 9 (.string star)).alloc _).alloc _).cell)
    | (gi_at_call 74;refine (hIN'.out _ hw1).mono ?_;rintro e w2 ⟨rfl,hb2⟩)
    | (gi_at_call 98;refine (AEO F (n-1) f1 hro _ _ _ _).mono ?_;rintro e w3 ⟨rfl,rfl⟩))
  have hI:=hI'.out
  have hB0:Below w.heap.size w (w2.alloc (Obj.cells #[Value.slice a len cap] 27)):=by
    have h3:Below w.heap.size w (((w.alloc (Obj.cells #[Value.string star] 9)).alloc (Obj.cells #[Value.int IntKind.i64 0,Value.string { data:=#[] },Value.string { data:=#[] },Value.int IntKind.i64 0,Value.bool false] 64)).alloc (Obj.cells #[Value.int IntKind.i64 0] 2)) :=
      (((Below.refl _ w).alloc (Nat.le_refl _) _).alloc (by simp) _).alloc (by simp;omega) _
    exact ((h3.trans (hb1.mono h3.size)).trans (hb2.mono (h3.trans (hb1.mono h3.size)).size)).alloc ((h3.trans (hb1.mono h3.size)).trans (hb2.mono (h3.trans (hb1.mono h3.size)).size)).size _
  have s1:w.heap.size+3<=w1.heap.size:=by have:=hb1.size;simpa using this
  have s2:=hb2.size
  have bS:Boxed (w2.alloc (Obj.cells #[Value.slice a len cap] 27)) w.heap.size 9 (.string star):=by
    have h:=((Boxed.new w 9 (.string star)).alloc (Obj.cells #[Value.int IntKind.i64 0,Value.string { data:=#[] },Value.string { data:=#[] },Value.int IntKind.i64 0,Value.bool false] 64)).alloc (Obj.cells #[Value.int IntKind.i64 0] 2);exact Boxed.alloc (((hb2.block _ (by omega)).trans (hb1.block _ (by simp;omega))).trans h) _
  have bR:Jz (w2.alloc (Obj.cells #[Value.slice a len cap] 27)) (w.heap.size+1) 64 (AD.mk 0 [] [] 0 false):=by
    have h:(((w.alloc (Obj.cells #[Value.string star] 9)).alloc (Obj.cells #[Value.int IntKind.i64 0,Value.string { data:=#[] },Value.string { data:=#[] },Value.int IntKind.i64 0,Value.bool false] 64)).alloc (Obj.cells #[Value.int IntKind.i64 0] 2)).heap[w.heap.size+1]? = some (.cells (Gq (AD.mk 0 [] [] 0 false)) 64 (0,0)):=by
      refine (Below.heap_alloc _ _ _ (by simp)).trans ?_;have:=World.alloc_heap_new (w.alloc (Obj.cells #[Value.string star] 9)) (Obj.cells #[Value.int IntKind.i64 0,Value.string { data:=#[] },Value.string { data:=#[] },Value.int IntKind.i64 0,Value.bool false] 64);rw[World.size_alloc] at this;exact this
    exact (Below.heap_alloc _ _ _ (by omega)).trans (((hb2.block _ (by omega)).trans (hb1.block _ (by simp))).trans h)
  have bI:Boxed (w2.alloc (Obj.cells #[Value.slice a len cap] 27)) (w.heap.size+1+1) 2 (.int .i64 0):=by
    have h:=Boxed.new ((w.alloc (Obj.cells #[Value.string star] 9)).alloc (Obj.cells #[Value.int IntKind.i64 0,Value.string { data:=#[] },Value.string { data:=#[] },Value.int IntKind.i64 0,Value.bool false] 64)) 2 (.int .i64 0);simp only[World.size_alloc] at h;exact Boxed.alloc (((hb2.block _ (by omega)).trans (hb1.block _ (by simp))).trans h) _
  have bN:Boxed (w2.alloc (Obj.cells #[Value.slice a len cap] 27)) w2.heap.size 27 (.slice a len cap):=Boxed.new _ _ _;have hI3:=hI.below hB0;have s3:(w2.alloc (Obj.cells #[Value.slice a len cap] 27)).heap.size=w2.heap.size+1:=World.size_alloc _ _;obtain⟨W0,hW0⟩:∃ W0,w2.alloc (Obj.cells #[Value.slice a len cap] 27)=W0:=⟨_,rfl⟩;obtain⟨nb,hnb⟩:∃ nb,w2.heap.size=nb:=⟨_,rfl⟩;rw[hW0] at hB0 bS bR bI bN hI3 s3 ⊢;rw[hnb] at bN s2 s3 ⊢;clear hW0;have hI3':=hI3.le hB0.size;clear hI3 hb1 hb2 hcs hIN' hVE' hI
  refine wpIn_rangeFunc_ownH hro h1 (gf:=147) (lb:=#[.pointer (some ⟨nb,0,none⟩)]) rfl f2 (enters_of Tryz.func147 (by kernel_rfl) rfl)
    (AAR F (n-1) f2 hro (by omega) nb _ L h100'.out W0 (by omega) bN.cell hI3') belowK_t (belowK_b (Nat.le_refl _)) (Below.refl _ _) (fun _=>rfl)
    (fun pre W=>((Boxed W w.heap.size 9 (.string star)∧Jz W (w.heap.size+1) 64 (AD.mk 0 [] [] 0 false))∧Boxed W (w.heap.size+1+1) 2 (.int .i64 0))∧(Below w.heap.size w W∧(W0.heap.size<=W.heap.size∧∀ x∈pre,((L.getD x default).Star==s)=false)))
    (fun c pre W=>(∃ ini last,pre=ini++[last]∧(∀ x∈ini,((L.getD x default).Star==s)=false)∧((L.getD last default).Star==s)=true∧Jz W (w.heap.size+1) 64 (L.getD last default)∧Boxed W (w.heap.size+1+1) 2 (.int .i64 0))∧(Below w.heap.size w W∧c = .ret))
    (OwnFrom.and (OwnFrom.and (OwnFrom.and (Own.from (boxed_own _ _ (fun _=>Value.string star)) _) (Own.from (Jz.own _ _ (fun _=>AD.mk 0 [] [] 0 false)) _)) (Own.from (boxed_own _ _ (fun _=>Value.int .i64 0)) _)) (OwnFrom.and (ownFrom_below (Nat.le_refl _) hB0.size) (fun s A B row hs hg _=>⟨Nat.le_trans hs.1 hg.size,hs.2⟩)))
    (fun c=>OwnFrom.and (Own.from (fun s A B row hs hg hr=>by obtain⟨ini,last,e1,e2,e3,e4,e5⟩:=hs;exact⟨ini,last,e1,e2,e3,(grownBy_keeps_cells hg hr e4 rfl).trans e4,(grownBy_keeps_cells hg hr e5 rfl).trans e5⟩) _) (OwnFrom.and (ownFrom_below (Nat.le_refl _) hB0.size) (fun s A B row hs _ _=>hs)))
    ⟨⟨⟨bS,bR⟩,bI⟩,hB0,Nat.le_refl _,by simp⟩
    (fun x a' W=>∃ Bx,W0.heap.size<=Bx∧Jz W Bx 64 (L.getD x default)∧a'={ tmps:=#[Value.slice a len cap,Value.string star,undef,Value.pointer (some { block:=w.heap.size,off:=0 }),Value.pointer (some { block:=w.heap.size+1,off:=0 }),Value.pointer (some { block:=w.heap.size+1+1,off:=0 }),undef,Value.pointer (some { block:=Bx,off:=0 }),Value.bool false,Value.slice a len cap,Value.bool true,Value.bool false,undef,Value.bool false,Value.string star,Value.bool true,Value.bool false,undef,Value.slice a len cap,Value.func (Fn.func 147) #[] #[Value.pointer (some { block:=nb,off:=0 })],.int .i64 (x:Nat),Ni (L.getD x default),undef,undef,undef,undef,undef,undef],defers:=[] })
    (fun x a' _ X Y row hs hg hr=>by obtain⟨Bx,h1,h2,h3⟩:=hs;exact⟨Bx,h1,(grownBy_keeps_cells hg (fun r e=>(hr r e).2) h2 rfl).trans h2,h3⟩)
    ?assign ?body ?done ?stop
  case assign=>
    rintro l pre x W K ⟨⟨⟨iS,iR⟩,iI⟩,iB,iZ,iN⟩ hK;obtain⟨X,hX⟩:∃ X,X=L.getD x default:=⟨_,rfl⟩;rw[← hX] at hK ⊢;unfold Ni at hK ⊢;clear hX;have hK':=Lib.hid hK;clear hK
    gi_wp2
    exact hK'.out _ _ ((KeepsOthers.alloc _ _).from _) ((Below.refl _ W).alloc iZ _) ⟨⟨⟨iS.alloc _,(Below.heap_alloc _ _ _ iR.lt).trans iR⟩,iI.alloc _⟩,iB.alloc iB.size _,by rw[World.size_alloc];omega,iN⟩ ⟨W.heap.size,iZ,World.alloc_heap_new W _,rfl⟩
  case body=>
    rintro l pre x a' W hl ⟨r,hr⟩ ⟨⟨⟨iS,iR⟩,iI⟩,iB,iZ,iN⟩ ⟨Bx,hBx,bX,rfl⟩ hlt;obtain⟨X,hX⟩:∃ X,X=L.getD x default:=⟨_,rfl⟩;rw[← hX] at bX ⊢;have hX':=Lib.hid hX;clear hX;have q0:W.cell? ⟨Bx,0,none⟩=some (.int .i64 X.Time):=by simp[World.cell?,show W.heap[Bx]? = _ from bX,Gq]
    have q1:W.cell? ⟨Bx,1,none⟩=some (.string ⟨X.Star.toArray⟩):=by simp[World.cell?,show W.heap[Bx]? = _ from bX,Gq]
    have q2:W.cell? ⟨Bx,2,none⟩=some (.string ⟨X.Observer.toArray⟩):=by simp[World.cell?,show W.heap[Bx]? = _ from bX,Gq]
    have q3:W.cell? ⟨Bx,3,none⟩=some (.int .i64 X.Mag):=by simp[World.cell?,show W.heap[Bx]? = _ from bX,Gq]
    have q4:W.cell? ⟨Bx,4,none⟩=some (.bool X.Fainter):=by simp[World.cell?,show W.heap[Bx]? = _ from bX,Gq]
    have r0:W.cell? ⟨w.heap.size+1,0,none⟩=some (.int .i64 0):=by simp[World.cell?,show W.heap[w.heap.size+1]? = _ from iR,Gq]
    have r1:W.cell? ⟨w.heap.size+1,1,none⟩=some (.string ⟨#[]⟩):=by simp[World.cell?,show W.heap[w.heap.size+1]? = _ from iR,Gq]
    have r2:W.cell? ⟨w.heap.size+1,2,none⟩=some (.string ⟨#[]⟩):=by simp[World.cell?,show W.heap[w.heap.size+1]? = _ from iR,Gq]
    have r3:W.cell? ⟨w.heap.size+1,3,none⟩=some (.int .i64 0):=by simp[World.cell?,show W.heap[w.heap.size+1]? = _ from iR,Gq]
    have r4:W.cell? ⟨w.heap.size+1,4,none⟩=some (.bool false):=by simp[World.cell?,show W.heap[w.heap.size+1]? = _ from iR,Gq]
    have rf:∀ j,W.frozen? ⟨w.heap.size+1,j,none⟩=false:=fun j=>by simp[World.frozen?,show W.heap[w.heap.size+1]? = _ from iR]
    have g0:=rf 0;have g1:=rf 1;have g2:=rf 2;have g3:=rf 3;have g4:=rf 4;have cS:=iS.cell;have cI:=iI.cell;have fI:=iI.frozen;have iS':=Lib.hid iS;have iR':=Lib.hid iR;have iI':=Lib.hid iI;have iN':=Lib.hid iN;have bX':=Lib.hid bX;clear iS iR iI iN bX rf;unfold Ni
    by_cases hq:(X.Star==s)=true
    · have hc:(X.Star==star.toList)=true:=by rw[hstar'.out,ByteArray.toList_eq];exact hq
      have hq':=Lib.hid hq;clear hq
      gi_wp2
      obtain⟨hh,hB1,hK1,ho⟩:=AGa (n:=w.heap.size) (X:=X) iR'.out (by omega);have hI1:=ho (w.heap.size+1+1) 2 (.int .i64 0) (by omega) iI'.out;show ownPostG _ _ _ _ _ _ _ _ ((W.setCells (w.heap.size+1) 0 (Gq X).toList).setCell ⟨w.heap.size+1+1,0,none⟩ (.int .i64 0));generalize W.setCells (w.heap.size+1) 0 (Gq X).toList=W2 at hh hB1 hK1 hI1;refine⟨(hK1.trans (KeepsOthers.setCell _ _ _)).from _,⟨pre,x,rfl,iN'.out,by rw[← hX'.out];exact hq'.out,?_,hI1.set _⟩,iB.trans ((hB1.setCell (p:=⟨w.heap.size+1+1,0,none⟩) (by simp;omega) _)),rfl⟩;rw[← hX'.out];exact (Below.heap_setCell _ _ _ _ (by simp)).trans hh
    · have hq1:(X.Star==s)=false:=by simpa using hq
      have hc:(X.Star==star.toList)=false:=by rw[hstar'.out,ByteArray.toList_eq];exact hq1
      have hq':=Lib.hid hq1;clear hq hq1
      gi_wp2
      refine⟨KeepsFrom.refl _ _,Below.refl _ _,⟨⟨iS'.out,iR'.out⟩,iI'.out⟩,iB,iZ,fun y hy=>?_⟩;rcases List.mem_append.1 hy with h|h
      · exact iN'.out y h
      · simp at h;subst h;rw[← hX'.out];exact hq'.out
  case done=>
    rintro D ys W hD rfl ⟨⟨⟨iS,iR⟩,iI⟩,iB,iZ,iN⟩ hK;have r0:W.cell? ⟨w.heap.size+1,0,none⟩=some (.int .i64 0):=by simp[World.cell?,show W.heap[w.heap.size+1]? = _ from iR,Gq]
    have r1:W.cell? ⟨w.heap.size+1,1,none⟩=some (.string ⟨#[]⟩):=by simp[World.cell?,show W.heap[w.heap.size+1]? = _ from iR,Gq]
    have r2:W.cell? ⟨w.heap.size+1,2,none⟩=some (.string ⟨#[]⟩):=by simp[World.cell?,show W.heap[w.heap.size+1]? = _ from iR,Gq]
    have r3:W.cell? ⟨w.heap.size+1,3,none⟩=some (.int .i64 0):=by simp[World.cell?,show W.heap[w.heap.size+1]? = _ from iR,Gq]
    have r4:W.cell? ⟨w.heap.size+1,4,none⟩=some (.bool false):=by simp[World.cell?,show W.heap[w.heap.size+1]? = _ from iR,Gq]
    have rf:∀ j,W.frozen? ⟨w.heap.size+1,j,none⟩=false:=fun j=>by simp[World.frozen?,show W.heap[w.heap.size+1]? = _ from iR]
    have g0:=rf 0;have g1:=rf 1;have g2:=rf 2;have g3:=rf 3;have g4:=rf 4;have cI:=iI.cell;have fI:=iI.frozen;have hK':=Lib.hid hK;have iR':=Lib.hid iR;have iN':=Lib.hid iN;have iB':=Lib.hid iB;have iI':=Lib.hid iI;clear iS iR iI iN iB rf hK
    gi_wp2
    obtain⟨hh,hB1,hK1,ho⟩:=AGa (n:=w.heap.size) (X:=AD.mk 0 [] [] 0 false) iR'.out (by omega);have hI1:=ho (w.heap.size+1+1) 2 (.int .i64 0) (by omega) iI'.out;show bodyPostM _ _ _ _ _ _ _ ((W.setCells (w.heap.size+1) 0 (Gq (AD.mk 0 [] [] 0 false)).toList).setCell ⟨w.heap.size+1+1,0,none⟩ (.int .i64 3));generalize W.setCells (w.heap.size+1) 0 (Gq (AD.mk 0 [] [] 0 false)).toList=W2 at hh hB1 hK1 hI1;have hh3:Jz (W2.setCell ⟨w.heap.size+1+1,0,none⟩ (.int .i64 3)) (w.heap.size+1) 64 (AD.mk 0 [] [] 0 false):=(Below.heap_setCell _ _ _ _ (by simp)).trans hh;have hI3:=hI1.set (.int .i64 3);have hK3:=((hK1.trans (KeepsOthers.setCell W2 ⟨w.heap.size+1+1,0,none⟩ (.int .i64 3)))).same D _ hK'.out rfl;have hB3:=iB'.out.trans (hB1.setCell (p:=⟨w.heap.size+1+1,0,none⟩) (by simp;omega) (.int .i64 3));generalize W2.setCell ⟨w.heap.size+1+1,0,none⟩ (.int .i64 3)=W3 at hh3 hI3 hK3 hB3;refine⟨by simp,.inl ⟨_,_,rfl,run_takeDeferred hK3,?_⟩⟩;have hh4:Jz (W3.putObj D (.deferred none)) (w.heap.size+1) 64 (AD.mk 0 [] [] 0 false):=(grownBy_keeps_cells (grownBy_putObj' _ D (.deferred none)) (fun r e=>by cases e;exact⟨_,hK3,rfl⟩) hh3 rfl).trans hh3;have hI4:=cell_kept hI3.cell (grownBy_putObj' _ D (.deferred none)) (fun r e=>by cases e;exact⟨_,hK3,rfl⟩);obtain⟨c0,c1,c2,c3,c4⟩:=hh4.cells;refine⟨.tuple #[Ni (Nx L s).1,.int .i64 (Nx L s).2],?_,rfl,hB3.trans (belowK_b (w:=w) (Nat.le_refl _) _ D _ _ (by have:=hB0.size;omega) hK3 rfl rfl)⟩;rw[mj iN'.out];simp[results,Tryz.f59,go_sem,c0,c1,c2,c3,c4,hI4,Ni]
  case stop=>
    rintro D c pre W hD ⟨k,hk,rfl⟩ ⟨⟨ini,last,e1,e2,e3,iR,iI⟩,iB,rfl⟩ hK;have hr:=Lib.hid (mi hk e1 e2 e3);have hh4:Jz (W.putObj D (.deferred none)) (w.heap.size+1) 64 (L.getD last default):=(grownBy_keeps_cells (grownBy_putObj' _ D (.deferred none)) (fun r e=>by cases e;exact⟨_,hK,rfl⟩) iR rfl).trans iR;have hI4:=cell_kept iI.cell (grownBy_putObj' _ D (.deferred none)) (fun r e=>by cases e;exact⟨_,hK,rfl⟩);have hh5:=Lib.hid hh4;have hI5:=Lib.hid hI4;have iB':=Lib.hid iB;have e1':=Lib.hid e1;clear hh4 hI4 iB iR iI e1 e2 e3
    gi_wp2
    refine⟨by simp,.inl ⟨_,_,rfl,run_takeDeferred hK,?_⟩⟩;refine⟨.tuple #[Ni (Nx L s).1,.int .i64 (Nx L s).2],?_,rfl,iB'.out.trans (belowK_b (w:=w) (Nat.le_refl _) W D _ _ (by have:=hB0.size;omega) hK rfl rfl)⟩;have hh4:=hh5.out;have hI4:=hI5.out;rw[hr.out];generalize L.getD last default=X at hh4 ⊢;obtain⟨c0,c1,c2,c3,c4⟩:=hh4.cells;simp[results,Tryz.f59,go_sem,c0,c1,c2,c3,c4,hI4,Ni]
theorem wD{w w1:World}{star:ByteArray}(hb1:Below (((w.alloc (Obj.cells #[Value.string star] 9)).alloc (Obj.cells #[Value.int IntKind.i64 0,Value.string { data:=#[] },Value.string { data:=#[] },Value.int IntKind.i64 0,Value.bool false] 64)).alloc (Obj.cells #[Value.int IntKind.i64 0] 2)).heap.size (((w.alloc (Obj.cells #[Value.string star] 9)).alloc (Obj.cells #[Value.int IntKind.i64 0,Value.string { data:=#[] },Value.string { data:=#[] },Value.int IntKind.i64 0,Value.bool false] 64)).alloc (Obj.cells #[Value.int IntKind.i64 0] 2)) w1):
    w1.cell? ⟨w.heap.size,0,none⟩=some (.string star)∧Jz w1 (w.heap.size+1) 64 (AD.mk 0 [] [] 0 false)∧Boxed w1 (w.heap.size+1+1) 2 (.int .i64 0)∧Below w.heap.size w w1:=by
  have h3:Below w.heap.size w (((w.alloc (Obj.cells #[Value.string star] 9)).alloc (Obj.cells #[Value.int IntKind.i64 0,Value.string { data:=#[] },Value.string { data:=#[] },Value.int IntKind.i64 0,Value.bool false] 64)).alloc (Obj.cells #[Value.int IntKind.i64 0] 2)):=(((Below.refl _ w).alloc (Nat.le_refl _) _).alloc (by simp) _).alloc (by simp;omega) _;refine⟨?_,?_,?_,h3.trans (hb1.mono h3.size)⟩
  · exact (hb1.cell (p:=⟨w.heap.size,0,none⟩) (by simp;omega)).trans (((Boxed.new w 9 (.string star)).alloc _).alloc _).cell
  · have h:(((w.alloc (Obj.cells #[Value.string star] 9)).alloc (Obj.cells #[Value.int IntKind.i64 0,Value.string { data:=#[] },Value.string { data:=#[] },Value.int IntKind.i64 0,Value.bool false] 64)).alloc (Obj.cells #[Value.int IntKind.i64 0] 2)).heap[w.heap.size+1]? = some (.cells (Gq (AD.mk 0 [] [] 0 false)) 64 (0,0)):=by
      refine (Below.heap_alloc _ _ _ (by simp)).trans ?_;have:=World.alloc_heap_new (w.alloc (Obj.cells #[Value.string star] 9)) (Obj.cells #[Value.int IntKind.i64 0,Value.string { data:=#[] },Value.string { data:=#[] },Value.int IntKind.i64 0,Value.bool false] 64);rw[World.size_alloc] at this;exact this
    exact (hb1.block _ (by simp)).trans h
  · have h:=Boxed.new ((w.alloc (Obj.cells #[Value.string star] 9)).alloc (Obj.cells #[Value.int IntKind.i64 0,Value.string { data:=#[] },Value.string { data:=#[] },Value.int IntKind.i64 0,Value.bool false] 64)) 2 (.int .i64 0);simp only[World.size_alloc] at h;exact (hb1.block _ (by simp)).trans h
theorem Jz.fr{W:World}{b:Nat}{t:TypeId}{X:AD}(h:Jz W b t X)(j:Nat):W.frozen? ⟨b,j,none⟩=false:=by
  simp[World.frozen?,show W.heap[b]? = _ from h]
theorem ANv{w W:World}{c:Int}(iR:Jz W (w.heap.size+1) 64 (AD.mk 0 [] [] 0 false))(iI:Boxed W (w.heap.size+1+1) 2 (.int .i64 0))(iB:Below w.heap.size w W):
    Jz ((W.setCells (w.heap.size+1) 0 (Gq (AD.mk 0 [] [] 0 false)).toList).setCell ⟨w.heap.size+1+1,0,none⟩ (.int .i64 c)) (w.heap.size+1) 64 (AD.mk 0 [] [] 0 false) ∧
    ((W.setCells (w.heap.size+1) 0 (Gq (AD.mk 0 [] [] 0 false)).toList).setCell ⟨w.heap.size+1+1,0,none⟩ (.int .i64 c)).cell? ⟨w.heap.size+1+1,0,none⟩=some (.int .i64 c) ∧
    Below w.heap.size w ((W.setCells (w.heap.size+1) 0 (Gq (AD.mk 0 [] [] 0 false)).toList).setCell ⟨w.heap.size+1+1,0,none⟩ (.int .i64 c)):=by
  obtain⟨hh,hB1,hK1,ho⟩:=AGa (n:=w.heap.size) (X:=(AD.mk 0 [] [] 0 false)) iR (by omega);have hI1:=ho (w.heap.size+1+1) 2 (.int .i64 0) (by omega) iI;generalize W.setCells (w.heap.size+1) 0 (Gq (AD.mk 0 [] [] 0 false)).toList=W2 at hh hB1 hK1 hI1;exact⟨(Below.heap_setCell _ _ _ _ (by simp)).trans hh,(hI1.set _).cell,iB.trans (hB1.setCell (p:=⟨w.heap.size+1+1,0,none⟩) (by simp;omega) _)⟩
theorem AGz(F:Fence)(n:Nat)(f0:F.fn 59)(f3:F.fn 25)(hro:F.round=none)(hn:5<=n)(a:Option Addr)(len cap:Nat)(star:ByteArray)(w:World)
    (hVE:∀ x y z,CallsIn F (n-1) Tryz.prog 25 #[.slice a len cap] (((w.alloc x).alloc y).alloc z) fun e w''=>e = .returned (.bool false)∧Below (((w.alloc x).alloc y).alloc z).heap.size (((w.alloc x).alloc y).alloc z) w'') :
    CallsIn F n Tryz.prog 59 #[.slice a len cap,.string star] w fun e W'=>e = .returned (.tuple #[Ni (AD.mk 0 [] [] 0 false),.int .i64 1])∧Below w.heap.size w W':=by
  have h1:1<=n:=by omega
  refine callsIn_of_wp Tryz.func59 rfl f0 ?_ hro;simp only[Tryz.ntmps59,List.size_toArray,List.length_cons,List.length_nil,Nat.reduceAdd,Nat.reduceSub,Array.replicate_succ,Array.replicate_zero,List.push_toArray,List.append_toArray,List.nil_append,List.cons_append];have hVE':=Lib.hid hVE;clear hVE
  gi_wp2_with (gi_at_call 25;refine (hVE'.out _ _ _).mono ?_;rintro e w2 ⟨rfl,hb1⟩;obtain⟨hcs,iR,iI,iB⟩:=wD hb1;clear hb1 hcs;obtain⟨q0,q1,q2,q3,q4⟩:=iR.cells;have g0:=iR.fr 0;have g1:=iR.fr 1;have g2:=iR.fr 2;have g3:=iR.fr 3;have g4:=iR.fr 4;have cI:=iI.cell;have fI:=iI.frozen;have iR':=Lib.hid iR;have iI':=Lib.hid iI;have iB':=Lib.hid iB;clear iR iI iB)
  obtain⟨k1,k2,k3⟩:=ANv (c:=1) iR'.out iI'.out iB'.out;show bodyPost _ _ _ _ _ ((w2.setCells (w.heap.size+1) 0 (Gq (AD.mk 0 [] [] 0 false)).toList).setCell ⟨w.heap.size+1+1,0,none⟩ (.int .i64 1));generalize (w2.setCells (w.heap.size+1) 0 (Gq (AD.mk 0 [] [] 0 false)).toList).setCell ⟨w.heap.size+1+1,0,none⟩ (.int .i64 1)=W3 at k1 k2 k3;obtain⟨c0,c1,c2,c3,c4⟩:=k1.cells;refine bodyPost_ret (v:=.tuple #[Ni (AD.mk 0 [] [] 0 false),.int .i64 1]) ?_ rfl ⟨rfl,k3⟩;simp[results,Tryz.f59,go_sem,c0,c1,c2,c3,c4,k2,Ni]
theorem ACN(F:Fence)(n:Nat)(f0:F.fn 59)(f3:F.fn 25)(f4:F.fn 74)(hro:F.round=none)(hn:5<=n)(a:Option Addr)(len cap:Nat)(star:ByteArray)(w:World)
    (hVE:∀ x y z,CallsIn F (n-1) Tryz.prog 25 #[.slice a len cap] (((w.alloc x).alloc y).alloc z) fun e w''=>e = .returned (.bool true)∧Below (((w.alloc x).alloc y).alloc z).heap.size (((w.alloc x).alloc y).alloc z) w'')
    (hIN:∀ w',AR (fun _=>False) w w'->CallsIn F (n-1) Tryz.prog 74 #[.string star] w' fun e w''=>e = .returned (.bool false)∧Below w'.heap.size w' w'') :
    CallsIn F n Tryz.prog 59 #[.slice a len cap,.string star] w fun e W'=>e = .returned (.tuple #[Ni (AD.mk 0 [] [] 0 false),.int .i64 2])∧Below w.heap.size w W':=by
  have h1:1<=n:=by omega
  refine callsIn_of_wp Tryz.func59 rfl f0 ?_ hro;simp only[Tryz.ntmps59,List.size_toArray,List.length_cons,List.length_nil,Nat.reduceAdd,Nat.reduceSub,Array.replicate_succ,Array.replicate_zero,List.push_toArray,List.append_toArray,List.nil_append,List.cons_append];have hVE':=Lib.hid hVE;clear hVE;have hIN':=Lib.hid hIN;clear hIN
  gi_wp2_with (first
    | (gi_at_call 25;refine (hVE'.out _ _ _).mono ?_;rintro e w1 ⟨rfl,hb1⟩;have hw1:=AFG hb1;obtain⟨hcs,iR1,iI1,iB1⟩:=wD hb1;have kR:=Lib.hid iR1;have kI:=Lib.hid iI1;have kB:=Lib.hid iB1;have s1:w.heap.size+3<=w1.heap.size:=(by have:=hb1.size;simpa using this);clear iR1 iI1 iB1 hb1)
    | (gi_at_call 74;refine (hIN'.out _ hw1).mono ?_;rintro e w2 ⟨rfl,hb2⟩;obtain⟨iR,iI,iB⟩:Jz w2 (w.heap.size+1) 64 (AD.mk 0 [] [] 0 false)∧Boxed w2 (w.heap.size+1+1) 2 (.int .i64 0)∧Below w.heap.size w w2:=⟨(hb2.block _ (by omega)).trans kR.out,(hb2.block _ (by omega)).trans kI.out,kB.out.trans (hb2.mono kB.out.size)⟩;clear hb2;obtain⟨q0,q1,q2,q3,q4⟩:=iR.cells;have g0:=iR.fr 0;have g1:=iR.fr 1;have g2:=iR.fr 2;have g3:=iR.fr 3;have g4:=iR.fr 4;have cI:=iI.cell;have fI:=iI.frozen;have iR':=Lib.hid iR;have iI':=Lib.hid iI;have iB':=Lib.hid iB;clear iR iI iB))
  obtain⟨k1,k2,k3⟩:=ANv (c:=2) iR'.out iI'.out iB'.out;show bodyPost _ _ _ _ _ ((w2.setCells (w.heap.size+1) 0 (Gq (AD.mk 0 [] [] 0 false)).toList).setCell ⟨w.heap.size+1+1,0,none⟩ (.int .i64 2));generalize (w2.setCells (w.heap.size+1) 0 (Gq (AD.mk 0 [] [] 0 false)).toList).setCell ⟨w.heap.size+1+1,0,none⟩ (.int .i64 2)=W3 at k1 k2 k3;obtain⟨c0,c1,c2,c3,c4⟩:=k1.cells;refine bodyPost_ret (v:=.tuple #[Ni (AD.mk 0 [] [] 0 false),.int .i64 2]) ?_ rfl ⟨rfl,k3⟩;simp[results,Tryz.f59,go_sem,c0,c1,c2,c3,c4,k2,Ni]
end Go.Proofs.YteaicgcfpcklkaaGreatDoor.last
namespace Go.Proofs.YteaicgcfpcklkaaGreatDoor
open Go Go.RowKit Go.Shelf Go.Proofs.YteaicgcfpcklkaaGreatDoor.last
theorem AED:∀ {a b:AD},AN a=AN b->a=b
  | ⟨_,_,_,_,_⟩,⟨_,_,_,_,_⟩,h=>by
    simp only[AN,AV.agg.injEq,List.cons.injEq,AV.int.injEq,AV.str.injEq,AV.bool.injEq,true_and,and_true] at h;obtain⟨rfl,rfl,rfl,rfl,rfl⟩:=h;rfl
theorem kC:∀ {a b:List AD},List.map AN a=List.map AN b->a=b
  | [],[],_=>rfl
  | [],_::_,h=>by simp at h
  | _::_,[],h=>by simp at h
  | a::l,b::m,h=>by
    simp only[List.map_cons,List.cons.injEq] at h;rw[AED h.1,kC h.2]
open Classical in
def jP (args:List AV):Rs :=
  if h:∃ q:List AD×List UInt8×(AD×Int),Fo q.1 q.2.1=some q.2.2∧args=[.sl 5 (List.map AN q.1),.str q.2.1] then
    ⟨true,.tup [AN (Classical.choose h).2.2.1,.int .i64 (Classical.choose h).2.2.2],[.any,.any]⟩
  else Rs.bad
def Hi:Ak:=⟨[.bor,.bor],false,jP⟩
theorem PB{list:List AD}{star:List UInt8}{y_:AD×Int}(h:Fo list star=some y_):
    Hi.F [.sl 5 (List.map AN list),.str star]=⟨true,.tup [AN y_.1,.int .i64 y_.2],[.any,.any]⟩:=by
  show jP _=_;have hex:∃ q:List AD×List UInt8×(AD×Int),Fo q.1 q.2.1=some q.2.2∧[AV.sl 5 (List.map AN list),.str star]=[.sl 5 (List.map AN q.1),.str q.2.1]:=⟨(list,star,y_),h,rfl⟩;unfold jP;rw[dif_pos hex];obtain⟨h1,h2⟩:=Classical.choose_spec hex;generalize Classical.choose hex=q at h1 h2 ⊢;simp only[List.cons.injEq,AV.sl.injEq,AV.str.injEq,true_and,and_true] at h2;have e1:=kC h2.1;rw[← e1,← h2.2,h] at h1;rw[← Option.some.inj h1]
theorem bj:Hi.modes=[.bor,.bor]:=rfl
theorem bB:Hi.flat=false:=rfl
attribute [go_sem] bj bB
theorem tO{args:List AV}(h:(jP args).ok=true):∃ list star y,Fo list star=some y∧args=[.sl 5 (List.map AN list),.str star]:=by
  unfold jP at h;split at h
  · rename_i hex;obtain⟨q,h1,h2⟩:=hex;exact⟨q.1,q.2.1,q.2.2,h1,h2⟩
  · cases h
theorem AEC{S:Nat->Prop}{w:World}{v:Value}{l:List AD}(h:VR S w v (.sl 5 (List.map AN l))):gx w.heap.size w v l:=by
  cases h with
  | @sl a n cap sz els b off rd hn hcap hsz ha hc hw hr=>
    have hl:(List.map AN l).length=l.length:=by simp
    refine⟨a,cap,by rw[hn,hl],fun hp=>?_⟩;obtain⟨e,_⟩:=ha (by rw[hl];exact hp);have hb:=World.block_lt_of_cell? w ⟨b,off+(0*5+0),none⟩ (hw 0 0 (by rw[hl];exact hp) (by omega))
    have hget:∀ k,k<l.length->(List.map AN l).getD k .any=AN (l.getD k default):=fun k hk=>by
      simp[gdE,hk]
    have one:∀ k j,k<l.length->j<5->w.cell? ⟨b,off+(k*5+j),none⟩=some (rd k j)∧VR S w (rd k j) ((AN (l.getD k default)).cells.getD j .any):=fun k j hk hj=>by
      refine⟨hw k j (by rw[hl];exact hk) hj,?_⟩;have:=hr k j (by rw[hl];exact hk) hj
      rwa [hget k hk] at this
    have i:∀ {u:Value} {k:IntKind} {z:Int},VR S w u (.int k z)->u = .int k z:=fun h=>by cases h;rfl
    have s:∀ {u:Value} {z:List UInt8},VR S w u (.str z)->u = .string ⟨z.toArray⟩:=fun h=>by cases h;rfl
    have bo:∀ {u:Value} {z:Bool},VR S w u (.bool z)->u = .bool z:=fun h=>by cases h;rfl
    refine⟨b,off,e,hb,⟨fun k hk=>?_,fun k hk=>?_,fun k hk=>?_,fun k hk=>?_,fun k hk=>?_⟩⟩
    · obtain⟨q,r⟩:=one k 0 hk (by omega);rw[← i r];exact q
    · obtain⟨q,r⟩:=one k 1 hk (by omega);rw[← s r];exact q
    · obtain⟨q,r⟩:=one k 2 hk (by omega);rw[← s r];exact q
    · obtain⟨q,r⟩:=one k 3 hk (by omega);rw[← i r];exact q
    · obtain⟨q,r⟩:=one k 4 hk (by omega);rw[← bo r];exact q
theorem pw{l:List AD}(h:BK l=some true):l.length<=100:=by
  unfold BK at h;split at h
  · cases h
  · rename_i hc;simp only[dtE] at hc;omega
theorem AEE{S:Nat->Prop}{w:World}(e:AD):VR S w (Ni e) (AN e):=by
  refine .agg rfl (fun j hj=>?_) (fun j hj=>?_)
  · match j,hj with
    | 0,_=>rfl
    | 1,_=>rfl
    | 2,_=>rfl
    | 3,_=>rfl
    | 4,_=>rfl
  · match j,hj with
    | 0,_=>exact .int
    | 1,_=>exact .str
    | 2,_=>exact .str
    | 3,_=>exact .int
    | 4,_=>exact .bool
theorem AOA{C:Ak}(h:C.modes=[.bor,.bor])(j:Nat):C.modes[j]? ≠ some .io:=by
  rw[h]
  match j with
  | 0=>intro c;cases c
  | 1=>intro c;cases c
  | j+2=>simp
theorem mh{l:List AD}{s:List UInt8}{y:AD×Int}(h:Fo l s=some y){v:Value}{w:World}(hv:VR (fun _=>False) w v (.sl 5 (List.map AN l)))(hg:GT (fun _=>False) w):
    Calls Tryz.prog 59 #[v,.string ⟨s.toArray⟩] w fun e W'=>e = .returned (.tuple #[Ni y.1,.int .i64 y.2])∧Below w.heap.size w W':=by
  unfold Fo at h;have hE:=AEC hv;obtain⟨a,cap,rfl,hp⟩:=id hE;cases hb:BK l with
  | none=>rw[hb] at h;cases h
  | some b=>
    rw[hb,obS] at h
    have hVE:∀ x y z,CallsIn Fence.wide (9-1) Tryz.prog 25 #[.slice a l.length cap] (((w.alloc x).alloc y).alloc z) fun e w''=>e = .returned (.bool b)∧Below (((w.alloc x).alloc y).alloc z).heap.size (((w.alloc x).alloc y).alloc z) w'':=fun x y z=>by
      have hsame:AR (fun _=>False) w (((w.alloc x).alloc y).alloc z):=((AR.alloc _ _ _).trans (AR.alloc _ _ _)).trans (AR.alloc _ _ _);refine callsIn_wide.2 ((Uh wN Tryz.func25 rfl (by decide +kernel) (args:=[.sl 5 (List.map AN l)]) (vargs:=#[.slice a l.length cap]) rfl (by rw[AOG];rfl) rfl (fun j hj=>?_) (hg.mono hsame fun _ _ c=>c) (ky hb)).mono fun e w'' ⟨h1,h2⟩=>⟨h1,Pw h2⟩);have hj':j<1:=by simpa using hj
      match j,hj' with
      | 0,_=>exact hv.mono hsame fun _ _ c=>c
    cases b
    · simp only[Bool.not_false,if_true,Option.some.injEq] at h;subst h;exact callsIn_wide.1 (AGz Fence.wide 9 trivial trivial rfl (by omega) a l.length cap ⟨s.toArray⟩ w hVE)
    · simp only[Bool.not_true,bfT,if_false] at h;cases hc:Bz s with
      | none=>rw[hc] at h;cases h
      | some c=>
        rw[hc,obS] at h
        have hIN:∀ w',AR (fun _=>False) w w'->CallsIn Fence.wide (9-1) Tryz.prog 74 #[.string ⟨s.toArray⟩] w' fun e w''=>e = .returned (.bool c)∧Below w'.heap.size w' w'':=fun w' hsame=>by
          refine callsIn_wide.2 ((Uh s_1 Tryz.func74 rfl (by decide +kernel) (args:=[.str s]) (vargs:=#[.string ⟨s.toArray⟩]) rfl (by rw[M_1];rfl) rfl (fun j hj=>?_) (hg.mono hsame fun _ _ c=>c) (lA hc)).mono fun e w'' ⟨h1,h2⟩=>⟨h1,Pw h2⟩);have hj':j<1:=by simpa using hj
          match j,hj' with
          | 0,_=>exact .str
        cases c
        · simp only[Bool.not_false,if_true,Option.some.injEq] at h;subst h;exact callsIn_wide.1 (ACN Fence.wide 9 trivial trivial trivial rfl (by omega) a l.length cap ⟨s.toArray⟩ w hVE hIN)
        · simp only[Bool.not_true,bfT,if_false] at h
          have e:Nx l s=y:=by
            unfold Nx;revert h;cases l.reverse.find? (fun e=>e.Star==s)<;>intro h<;>exact Option.some.inj h
          rw[← e];exact callsIn_wide.1 (ACM Fence.wide 9 trivial trivial trivial trivial trivial rfl (by omega) a l.length cap l rfl (pw hb) s ⟨s.toArray⟩ rfl w hE hVE hIN)
theorem bM:AQ Tryz.prog 59 Hi:=by
  refine⟨fun e=>Bool.noConfusion e,fun F g0 w args vargs hsh hsz hfr hok=>⟨fun e=>Bool.noConfusion e,?_⟩⟩;obtain⟨l,s,y,hy,rfl⟩:=tO hok;have h0:=FD hfr (i:=0) (by simp);have h1:=FD hfr (i:=1) (by simp);rw[Kz hsz];generalize vargs.getD 0 undef=v at h0;generalize vargs.getD 1 undef=u at h1;have hv:VR (fun _=>False) w v (.sl 5 (List.map AN l)):=VR.mono (AR.refl _ _) (fun _ _ c=>c.elim) h0;have h1:VR _ w u (.str s):=h1;cases h1
  have he:=Go.Proofs.enters_of (P:=Tryz.prog) Tryz.func59 (by kernel_rfl) rfl;unfold CZ;rw[he,PB hy];refine (mh hy hv (hfr.tab.mono (AR.refl _ _) fun _ _ c=>c.elim)).mono ?_;rintro e' w' ⟨rfl,hB⟩;have hs:AR (fun _=>False) w w':=⟨hB.os,hB.tape,hB.output,hB.size,fun b hb _=>hB.block b hb⟩;refine⟨_,g0,[],id,rfl,Jj hs ⟨_,rfl,rfl,fun j hj=>?_⟩ (fun i hi=>?_) (AOA rfl)⟩
  · match j,hj with
    | 0,_=>exact AEE _
    | 1,_=>exact .int
  · obtain⟨j,_,hj,hf⟩:=hi
    match j,hj with
    | 0,_=>exact absurd hf Bool.false_ne_true
    | 1,_=>exact absurd hf Bool.false_ne_true
end Go.Proofs.YteaicgcfpcklkaaGreatDoor
