/- Lemmas. No condition. -/
import Derived.Test.YtegmpdmpgmpiaaaGreatDoorPI
open Go.Lib renaming hid->a1
set_option linter.defProp false
set_option linter.unusedSimpArgs false
set_option linter.unusedVariables false
set_option maxRecDepth 100000
set_option maxHeartbeats 8000000
namespace Go.Proofs.YtegmpdmpgmpiaaaGreatDoor.l28
open Go Go.RowKit plot rdc
variable{S:Nat->Prop}{w:World}
def AFs{v:Value}{l:List AU}(h:VR S w v (.sl 3 (List.map Br l))):
  ∃a cap,v = .slice a l.length cap/\(0<l.length->∃b off,a=some ⟨b,off,none⟩/\∀k,k<l.length->VR S w (.pointer (some ⟨b,off+k*3,none⟩)) (.ptr 3 [Br (l.getD k default)] 0 0)):=by
 cases h with
 | @sl a n cap sz els b off rd hn aa ad ha hc hw hr=>
  have J:(List.map Br l).length=l.length:=p'
  refine⟨a,cap,by rw[hn,J],fun hp=>⟨b,off,(ha (by rw[J];exact hp)).1,fun k U=>?_⟩⟩;have C:k<(List.map Br l).length:=by rw[J];exact U
  have I:(List.map Br l).getD k .any=Br (l.getD k default):=by simp[gdE,U]
  refine VR.ptr (sz:=3) (els:=[Br (l.getD k default)]) (i0:=0) (o0:=0) b (off+k*3) (fun _ j=>rd k j) x' Nat.one_pos (ha n').2 (fun i hi=>?_) (fun i j hi R=>?_) (fun i j hi R=>?_)
  .match i,hi with
   |0,_=>exact⟨rfl,rfl⟩
  .match i,hi with
   | 0,_=>
    have:=hw k j C R;rw[show off+k*3+(0*3+j)=off+(k*3+j) by omega];exact this
  .match i,hi with
   | 0,_=>
    have:=hr k j C R;rw[I]at this;exact this
def AEz{u:Value}{r:Hx}(h:VR S w u (.ptr 4 [FB r] 0 0)):∃b off j,u = .pointer (some ⟨b,off,none⟩)/\b<w.heap.size/\¬ S b/\w.cell? ⟨b,off+3,none⟩=some j/\VR S w j (.sl 3 (List.map Br r.list_)):=by
 cases h with
 | ptr b off rd C hi hs J hw I=>
  have q:=hw 0 3 p' n';exact⟨b,off,rd 0 3,p',World.block_lt_of_cell? w _ q,hs,by simpa using q,I 0 3 p' n'⟩
variable{O:Nat->Prop}
def xd{x:L8}{y:Hx×Int}(h:Ea x=some y)(lo:∀b,O b->b<w.heap.size)(gt:GT O w):
  Calls Tryz.prog 63 #[.string ⟨x.toArray⟩] w fun e w'=>∃u,e = .returned (.tuple #[u,.int .i64 y.2])/\AD C' w w'/\VR O w' u (.ptr 4 [FB y.1] 0 0) :=
 (DR s_173.s Tryz.func63 rfl z' (args:=[.str x]) (vargs:=#[.string ⟨x.toArray⟩]) rfl (by rw[AQB];rfl) rfl (hv1 .str) lo gt (ANS h)).mono fun e w' ⟨u,I,h2,C⟩=>by
  obtain⟨a,rfl,j⟩:=tup2_inv C;exact⟨a,I,h2,j⟩
def rE{e:AU}{t:L8}{p:Value}(h:EQ e=some t)(j:VR O w p (.ptr 3 [Br e] 0 0))(lo:∀b,O b->b<w.heap.size)(gt:GT O w):
  Calls Tryz.prog 88 #[p] w fun e w'=>e = .returned (.string ⟨t.toArray⟩)/\AD C' w w' :=
 (DR s_165.s Tryz.func88 rfl z' (args:=[.ptr 3 [Br e] 0 0]) (vargs:=#[p]) rfl (by rw[AQE];rfl) rfl (hv1 j) lo gt (ADp h)).mono fun e w' ⟨u,I,h2,C⟩=>by cases C;exact⟨I,h2⟩
attribute [local irreducible] Calls in
def AOg{sb:Nat}{s s':GV}(h:At O sb s w)(hr:log s=some s'):
  Calls Tryz.prog 52 #[.pointer (some ⟨sb,0,none⟩)] w fun e w'=>e = .returned (.tuple #[])/\GI O sb w s' w':=by
 obtain⟨y,hy,hr⟩:=AO hr;obtain⟨hfew,hr⟩:=AY hr;obtain⟨q,hq,hr⟩:=AO hr;have hfew:y.1.list_.length<1099511627776:=of_decide_eq_true hfew;obtain⟨i0,hi,hz0,hz1,hz2⟩:=info_parts Rq;obtain⟨va,vb,v,h⟩:=h;obtain⟨_,_,c2,_,_,_,_,_⟩:=h.cells;have H:=a1 h;have HY:=a1 hy;have HQ:=a1 hq;have HR:=a1 hr;have HI:=a1 hi;have HZ:=a1 hz0;have H1:=a1 hz1;have H2:=a1 hz2;obtain⟨L,hL⟩:∃x,s.d.Log=x:=⟨_,rfl⟩;rw[hL]at c2 HY;clear h hy hq hr hi hz0 hz1 hz2 hL
 go_enter Tryz.func52,Tryz.ntmps52
 go_wp2_with (go_at_call 63;refine(xd HY.out H.out.lo H.out.gt).mono ?_;rintro e w1 ⟨u,rfl,hs1,hu⟩;obtain⟨rb,ro,lv,rfl,hrb,hrn,hrc,hlv⟩:=AEz hu;obtain⟨a,cap,rfl,hp⟩:=AFs hlv;have HP:=a1 hp;have S1:=a1 hs1;clear hu hs1 hp hlv hrn)
 obtain⟨n,hn⟩:∃n,n=y.1.list_.length:=⟨_,rfl⟩;rw[←hn]at hrc;have hnn:n<1099511627776:=n'
 have HN:=a1 hn;obtain⟨N,hN⟩:∃N,N=w1.heap.size:=⟨_,rfl⟩;have ho:sU N w1 (w1.alloc (.cells #[] 9)) (.slice (some ⟨N,0,none⟩) 0 0) []:=⟨by rw[hN];exact Qj (kH w1) (Nat.le_refl _),AD.alloc _ w1 _,hN⟩;rw[←hN];obtain⟨w2,hw2⟩:∃w2,w2=w1.alloc (.cells #[] 9):=⟨_,rfl⟩;rw[←hw2]at ho ⊢;have HO:=a1 ho;clear hw2 ho hN hn hfew c2
 go_loopw [4,5] (fun lv i wr=>∃(j:Nat) (acc:List L8) (g c:Nat),j<=n/\lv = .slice (some ⟨g,0,none⟩) acc.length c/\i = .int .i64 j/\Hid (sU N w1 wr (.slice (some ⟨g,0,none⟩) acc.length c) acc)/\Hid (nx acc (y.1.list_.drop j)=some q)) (fun _ i _=>n-(intOf i).toNat)
 case atStart=>exact⟨0,[],N,0,Nat.zero_le _,rfl,rfl,HO,by simpa using HQ⟩
 case round=>
  clear HO;obtain⟨j,acc,g,c,hj,rfl,rfl,ho,hq⟩:=hrel;have p0:=ho.out.same.cell id hrc
  by_cases hjn:j<n
  .obtain⟨b,off,rfl,hpt⟩:=HP.out (by rw[←HN.out];omega);have hq2:=hq.out;rw[WI (by rw[←HN.out];exact hjn),nx]at hq2;have hpp:=(hpt j (by rw[←HN.out];exact hjn)).mono (S':=O) (YG ho.out.same) fun _ _ c=>c
   obtain⟨X,hX,hq2⟩:=AO hq2;obtain⟨hk3,hq2⟩:=AY hq2;have hk3:acc.length<1099511627776:=of_decide_eq_true hk3;have HX:=a1 hX;have HQ2:=a1 hq2;have HPP:=a1 hpp;have hj0:(0:Int)<=(j:Int):=n'
   have hj1:(j:Int)<(n:Int):=n'
   have HH:=a1 (H.out.still (S1.out.trans ho.out.same));clear hX hq2 hq hpt hpp HP
   go_wp2_with (first
    |(go_at_call 88;refine(rE HX.out HPP.out HH.out.lo HH.out.gt).mono ?_;rintro e w3 ⟨rfl,hs3⟩;have S3:=a1 hs3;clear hs3)
    |(at_builtin;refine wpList_append_lies _ rfl _ _ 33 rfl N 9 i0 _ 1 16 Rp HI.out HZ.out H1.out H2.out rfl n' (.slice (some ⟨g,0,none⟩) acc.length c) acc.length (MQ acc) rfl (World.ownsRow.alloc (LG ho.out.row S3.out (fun _ _=>id)) _) ⟨w3.heap.size,0,none⟩ 1 1 [.string ⟨X.toArray⟩] rfl rfl (World.news_of_block (cs:=#[.string ⟨X.toArray⟩]) (t:=9) (fr:=(0,0)) (heap_alloc_new w3 _)) (by simp[Value.oneCell']) n' (by unfold maxLen;omega) n' (by have:=ho.out.n;have:=ho.out.same.size;have:=S3.out.size;simp;omega) (w3.heap.size+1) p' ?_;intro g2 c2 w4 o4 gr4 at4 lt4))
   go_roundw
   case rel=>exact⟨j+1,acc++[X],g2,c2,n',p',by go_num,a1 (by rw[List.length_append];exact ho.out.more (S3.out.trans (AD.alloc _ _ _)) o4 gr4),HQ2⟩
   case measure=>simp[intOf];omega
  .obtain rfl:j=n:=n'
   have hq2:=hq.out;rw[HN.out,List.drop_length,nx]at hq2;obtain rfl:=Option.some.inj hq2;have HO:=a1 ho.out;clear hq hq2 ho
   go_wp2_with (go_at_call 89;refine(oB ⟨_,_,_,H.out.still (S1.out.trans HO.out.same)⟩ (l:=acc) (gA HO.out.row) HR.out).mono ?_;rintro e w5 ⟨rfl,he⟩;have E2:=a1 he;clear he)
   refine bodyPost_end (results_none rfl _ _ _) rfl ?_;exact⟨rfl,GI.behind (S1.out.trans HO.out.same) E2.out⟩
end Go.Proofs.YtegmpdmpgmpiaaaGreatDoor.l28
