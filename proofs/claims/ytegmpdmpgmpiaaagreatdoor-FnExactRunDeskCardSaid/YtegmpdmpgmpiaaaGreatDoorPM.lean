/- Lemmas and walks, several texts in one. No condition. -/
import Derived.Test.YtegmpdmpgmpiaaaGreatDoorPI
open Go.Lib renaming hid->a1
set_option linter.defProp false
set_option linter.unusedSimpArgs false
set_option linter.unusedVariables false
set_option maxRecDepth 100000
set_option maxHeartbeats 8000000
namespace Go.Proofs.YtegmpdmpgmpiaaaGreatDoor.l28
open Go Go.RowKit Go.Proofs.YtegmpdmpgmpiaaaGreatDoor Go.Proofs.YtegmpdmpgmpiaaaGreatDoor.plot Go.Proofs.YtegmpdmpgmpiaaaGreatDoor.rdc
theorem ABI{S:Nat->Prop}{w:World}{v:Value}{l:List AW}(h:VR S w v (.sl 3 (List.map Bz l))):
  ∃ a cap,v = .slice a l.length cap∧(0<l.length->∃ b off,a=some ⟨b,off,none⟩∧∀ k,k<l.length->VR S w (.pointer (some ⟨b,off+k*3,none⟩)) (.ptr 3 [Bz (l.getD k default)] 0 0)):=by
 cases h with
 | @sl a n cap sz els b off rd hn J T P hc R U=>
  have p:(List.map Bz l).length=l.length:=by simp
  refine⟨a,cap,by rw[hn,p],fun hp=>⟨b,off,(P (by rw[p];exact hp)).1,fun k I=>?_⟩⟩;have g:k<(List.map Bz l).length:=by rw[p];exact I
  have o:(List.map Bz l).getD k .any=Bz (l.getD k default):=by simp[gdE,I]
  refine VR.ptr (sz:=3) (els:=[Bz (l.getD k default)]) (i0:=0) (o0:=0) b (off+k*3) (fun _ j=>rd k j) (by decide) Nat.one_pos (P (by omega)).2 (fun i hi=>?_) (fun i j hi C=>?_) (fun i j hi C=>?_)
  ·match i,hi with
   | 0,_=>exact⟨rfl,rfl⟩
  ·match i,hi with
   | 0,_=>
    have:=R k j g C;rw[show off+k*3+(0*3+j)=off+(k*3+j) by omega];exact this
  ·match i,hi with
   | 0,_=>
    have:=U k j g C;rw[o] at this;exact this
theorem AAd{S:Nat->Prop}{w:World}{u:Value}{r:Gf}(h:VR S w u (.ptr 4 [Ec r] 0 0)):∃ b off g,u = .pointer (some ⟨b,off,none⟩)∧b<w.heap.size∧¬ S b∧w.cell? ⟨b,off+3,none⟩=some g∧VR S w g (.sl 3 (List.map Bz r.list_)):=by
 cases h with
 | ptr b off rd j hi hs p i o=>
  have q:=i 0 3 (by simp) (by omega);exact⟨b,off,rd 0 3,by simp,World.block_lt_of_cell? w _ q,hs,by simpa using q,o 0 3 (by simp) (by omega)⟩
theorem tP{O:Nat->Prop}{w:World}{x:List UInt8}{y:Gf×Int}(h:ES x=some y)(lo:∀ b,O b->b<w.heap.size)(gt:GT O w):
  Calls Tryz.prog 63 #[.string ⟨x.toArray⟩] w fun e w'=>∃ u,e = .returned (.tuple #[u,.int .i64 y.2])∧AG (fun _=>False) w w'∧VR O w' u (.ptr 4 [Ec y.1] 0 0) :=
 (DG s_173.s Tryz.func63 rfl (by decide +kernel) (args:=[.str x]) (vargs:=#[.string ⟨x.toArray⟩]) rfl (by rw[AKr];rfl) rfl (Xr .str) lo gt (AIX h)).mono fun e w' ⟨u,j,h2,i⟩=>by
  obtain⟨a,rfl,g⟩:=KU i;exact⟨a,j,h2,g⟩
theorem nS{O:Nat->Prop}{w:World}{e:AW}{t:List UInt8}{p:Value}(h:Dz e=some t)(g:VR O w p (.ptr 3 [Bz e] 0 0))(lo:∀ b,O b->b<w.heap.size)(gt:GT O w):
  Calls Tryz.prog 88 #[p] w fun e w'=>e = .returned (.string ⟨t.toArray⟩)∧AG (fun _=>False) w w' :=
 (DG s_165.s Tryz.func88 rfl (by decide +kernel) (args:=[.ptr 3 [Bz e] 0 0]) (vargs:=#[p]) rfl (by rw[AKu];rfl) rfl (Xr g) lo gt (zQ h)).mono fun e w' ⟨u,j,h2,i⟩=>by cases i;exact⟨j,h2⟩
attribute [local irreducible] Calls in
theorem AJj{O:Nat->Prop}{sb:Nat}{s s':FL}{w:World}(h:At O sb s w)(hr:log s=some s'):
  Calls Tryz.prog 52 #[.pointer (some ⟨sb,0,none⟩)] w fun e w'=>e = .returned (.tuple #[])∧Em O sb w s' w':=by
 obtain⟨y,hy,hr⟩:=AN hr;obtain⟨hfew,hr⟩:=AO hr;obtain⟨q,hq,hr⟩:=AN hr;have hfew:y.1.list_.length<1099511627776:=of_decide_eq_true hfew;obtain⟨i0,hi,hz0,hz1,hz2⟩:=info_parts Ql;obtain⟨va,vb,v,h⟩:=h;obtain⟨_,_,c2,_,_,_,_,_⟩:=h.cells;have H:=a1 h;have HY:=a1 hy;have HQ:=a1 hq;have HR:=a1 hr;have HI:=a1 hi;have HZ:=a1 hz0;have H1:=a1 hz1;have H2:=a1 hz2;obtain⟨L,hL⟩:∃ x,s.d.Log=x:=⟨_,rfl⟩;rw[hL] at c2 HY;clear h hy hq hr hi hz0 hz1 hz2 hL
 go_enter Tryz.func52,Tryz.ntmps52
 go_wp2_with (go_at_call 63;refine (tP HY.out H.out.lo H.out.gt).mono ?_;rintro e w1 ⟨u,rfl,hs1,hu⟩;obtain⟨rb,ro,lv,rfl,hrb,hrn,hrc,hlv⟩:=AAd hu;obtain⟨a,cap,rfl,hp⟩:=ABI hlv;have HP:=a1 hp;have S1:=a1 hs1;clear hu hs1 hp hlv hrn)
 obtain⟨n,hn⟩:∃ n,n=y.1.list_.length:=⟨_,rfl⟩;rw[← hn] at hrc;have hnn:n<1099511627776:=by omega
 have HN:=a1 hn;obtain⟨N,hN⟩:∃ N,N=w1.heap.size:=⟨_,rfl⟩;have ho:ABG N w1 (w1.alloc (.cells #[] 9)) (.slice (some ⟨N,0,none⟩) 0 0) []:=⟨by rw[hN];exact Pi (fg w1) (Nat.le_refl _),AG.alloc _ w1 _,hN⟩;rw[← hN];obtain⟨w2,hw2⟩:∃ w2,w2=w1.alloc (.cells #[] 9):=⟨_,rfl⟩;rw[← hw2] at ho ⊢;have HO:=a1 ho;clear hw2 ho hN hn hfew c2
 go_loopw [4,5] (fun lv i wr=>∃ (j:Nat) (acc:List (List UInt8)) (g c:Nat),j<=n∧lv = .slice (some ⟨g,0,none⟩) acc.length c∧i = .int .i64 j∧Hid (ABG N w1 wr (.slice (some ⟨g,0,none⟩) acc.length c) acc)∧Hid (kL acc (y.1.list_.drop j)=some q)) (fun _ i _=>n-(intOf i).toNat)
 case atStart=>exact⟨0,[],N,0,Nat.zero_le _,rfl,rfl,HO,by simpa using HQ⟩
 case round=>
  clear HO;obtain⟨j,acc,g,c,hj,rfl,rfl,ho,hq⟩:=hrel;have p0:=ho.out.same.cell id hrc
  by_cases hjn:j<n
  ·obtain⟨b,off,rfl,hpt⟩:=HP.out (by rw[← HN.out];omega);have hq2:=hq.out;rw[Rw (by rw[← HN.out];exact hjn),kL] at hq2;have hpp:=(hpt j (by rw[← HN.out];exact hjn)).mono (S':=O) (Tv ho.out.same) fun _ _ c=>c
   obtain⟨X,hX,hq2⟩:=AN hq2;obtain⟨hk3,hq2⟩:=AO hq2;have hk3:acc.length<1099511627776:=of_decide_eq_true hk3;have HX:=a1 hX;have HQ2:=a1 hq2;have HPP:=a1 hpp;have hj0:(0:Int)<=(j:Int):=by omega
   have hj1:(j:Int)<(n:Int):=by omega
   have HH:=a1 (H.out.still (S1.out.trans ho.out.same));clear hX hq2 hq hpt hpp HP
   go_wp2_with (first
    | (go_at_call 88;refine (nS HX.out HPP.out HH.out.lo HH.out.gt).mono ?_;rintro e w3 ⟨rfl,hs3⟩;have S3:=a1 hs3;clear hs3)
    | (at_builtin;refine wpList_append_lies _ rfl _ _ 33 rfl N 9 i0 _ 1 16 Qk HI.out HZ.out H1.out H2.out rfl (by omega) (.slice (some ⟨g,0,none⟩) acc.length c) acc.length (Kk acc) rfl (World.ownsRow.alloc (Iu ho.out.row S3.out (fun _ _=>id)) _) ⟨w3.heap.size,0,none⟩ 1 1 [.string ⟨X.toArray⟩] rfl rfl (World.news_of_block (cs:=#[.string ⟨X.toArray⟩]) (t:=9) (fr:=(0,0)) (heap_alloc_new w3 _)) (by simp[Value.oneCell']) (by omega) (by unfold maxLen;omega) (by omega) (by have:=ho.out.n;have:=ho.out.same.size;have:=S3.out.size;simp;omega) (w3.heap.size+1) (by simp) ?_;intro g2 c2 w4 o4 gr4 at4 lt4))
   go_roundw
   case rel=>exact⟨j+1,acc++[X],g2,c2,by omega,by simp,by go_num,a1 (by rw[List.length_append];exact ho.out.more (S3.out.trans (AG.alloc _ _ _)) o4 gr4),HQ2⟩
   case measure=>simp[intOf];omega
  ·obtain rfl:j=n:=by omega
   have hq2:=hq.out;rw[HN.out,List.drop_length,kL] at hq2;obtain rfl:=Option.some.inj hq2;have HO:=a1 ho.out;clear hq hq2 ho
   go_wp2_with (go_at_call 89;refine (kO ⟨_,_,_,H.out.still (S1.out.trans HO.out.same)⟩ (l:=acc) (ce HO.out.row) HR.out).mono ?_;rintro e w5 ⟨rfl,he⟩;have E2:=a1 he;clear he)
   refine bodyPost_end (results_none rfl _ _ _) rfl ?_;exact⟨rfl,Em.behind (S1.out.trans HO.out.same) E2.out⟩
end Go.Proofs.YtegmpdmpgmpiaaaGreatDoor.l28
