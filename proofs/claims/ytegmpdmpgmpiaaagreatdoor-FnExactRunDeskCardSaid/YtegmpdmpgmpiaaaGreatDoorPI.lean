/- Lemmas and walks, several texts in one. No condition. -/
import Derived.Test.YtegmpdmpgmpiaaaGreatDoorPE
import Derived.LoopTactic
open Go.Lib renaming hid->a6
open List renaming map->a7,drop_length->b2
open Option renaming some->a',none->b0
open Option.some renaming inj->ay
set_option linter.defProp false
set_option linter.unusedSimpArgs false
set_option linter.unusedVariables false
set_option maxRecDepth 100000
set_option maxHeartbeats 8000000
namespace Go.Proofs.YtegmpdmpgmpiaaaGreatDoor.l28
open Go Go.RowKit Go.Proofs.YtegmpdmpgmpiaaaGreatDoor Go.Proofs.YtegmpdmpgmpiaaaGreatDoor.plot Go.Proofs.YtegmpdmpgmpiaaaGreatDoor.rdc
theorem AFY{O:Nat->Prop}{w:World}{k:Int}{n:List UInt8}(h:CY k=a' n)(lo:∀ b,O b->b<w.heap.size)(gt:GT O w):
  Calls Tryz.prog 128 #[.int .i64 k] w fun e w'=>e = .returned (.string ⟨n.toArray⟩)∧AG (fun _=>False) w w' :=
 (DG s_178.s Tryz.func128 rfl (by decide +kernel) (args:=[.int .i64 k]) (vargs:=#[.int .i64 k]) rfl (by rw[AKo];rfl) rfl (Xr .int) lo gt (ie h)).mono fun e w' ⟨u,i,h2,g⟩=>by cases g;exact⟨i,h2⟩
structure PtAt(W:World)(b off:Nat)(l:List AJ):Prop where
 c0:∀ k,k<l.length->W.cell? ⟨b,off+k*2,b0⟩=a' (.int .i64 (l.getD k default).Time)
 c1:∀ k,k<l.length->W.cell? ⟨b,off+k*2+1,b0⟩=a' (.int .i64 (l.getD k default).Mag)
theorem AFr{S:Nat->Prop}{w:World}{v:Value}{l:List AJ}(h:VR S w v (.sl 2 (a7 AP l))):
  ∃ a cap,v = .slice a l.length cap∧(0<l.length->∃ b off,a=a' ⟨b,off,b0⟩∧b<w.heap.size∧PtAt w b off l):=by
 cases h with
 | @sl a n cap sz els b off rd U P R ha hc C T=>
  have o:(a7 AP l).length=l.length:=by simp
  refine⟨a,cap,by rw[U,o],fun I=>?_⟩;obtain⟨e,_⟩:=ha (by rw[o];exact I);have hb:=World.block_lt_of_cell? w ⟨b,off+(0*2+0),b0⟩ (C 0 0 (by rw[o];exact I) (by omega))
  have p:∀ k,k<l.length->(a7 AP l).getD k .any=AP (l.getD k default):=fun k g=>by
   simp[gdE,g]
  have one:∀ k j,k<l.length->j<2->w.cell? ⟨b,off+(k*2+j),b0⟩=a' (rd k j)∧VR S w (rd k j) ((AP (l.getD k default)).cells.getD j .any):=fun k j g J=>by
   refine⟨C k j (by rw[o];exact g) J,?_⟩;have:=T k j (by rw[o];exact g) J
   rwa [p k g] at this
  have i:∀ {u:Value} {k:IntKind} {z:Int},VR S w u (.int k z)->u = .int k z:=fun h=>by cases h;rfl
  refine⟨b,off,e,hb,⟨fun k g=>?_,fun k g=>?_⟩⟩
  ·obtain⟨q,r⟩:=one k 0 g (by omega);rw[← i r];exact q
  ·obtain⟨q,r⟩:=one k 1 g (by omega);rw[← i r];exact q
theorem Rw{α:Type}[Inhabited α]{l:List α}{j:Nat}(h:j<l.length):l.drop j=l.getD j default::l.drop (j+1):=by
 rw[List.drop_eq_getElem_cons h,gdE,geE h];rfl
structure ABG(N:Nat)(w0 w:World)(u:Value)(acc:List (List UInt8)):Prop where
 row:Mr N w u acc
 same:AG (fun _=>False) w0 w
 n:N=w0.heap.size
theorem ABG.more{N:Nat}{j w i w2:World}{u o:Value}{acc:List (List UInt8)}{x:List UInt8}(h:ABG N j w u acc)(I:AG (fun _=>False) w i)(C:w2.ownsRow N 9 1 o (acc.length+1) (Kk acc++[.string ⟨x.toArray⟩]))(g:i.grownBy w2 u.ownBlock):ABG N j w2 o (acc++[x]):=by
 refine⟨by simpa[Mr,Kk,strV] using C,?_,h.n⟩;have hs:=h.same.trans I;refine⟨g.os.trans hs.os,g.tape.trans hs.tape,g.output.trans hs.output,Nat.le_trans hs.size g.size,fun b p _=>?_⟩;rw[g.block b (Nat.lt_of_lt_of_le p hs.size) (fun c=>by have:=(Iv h.row c.symm).1;have:=h.n;omega),hs.block b p id]
theorem ce{N g c:Nat}{w:World}{acc:List (List UInt8)}(h:Mr N w (.slice (a' ⟨g,0,b0⟩) acc.length c) acc):Li w g 0 acc:=fun k i=>by
 rw[Nat.zero_add,Mz h i,Kk,gdE,List.getElem?_map,gdE,geE i];rfl
theorem AKU{x y z:List UInt8}:((⟨x.toArray⟩:ByteArray)++⟨y.toArray⟩++⟨z.toArray⟩)=⟨(x++y++z).toArray⟩:=by
 apply ByteArray.ext;simp[ByteArray.data_append]
attribute [local irreducible] Calls in
theorem ABN{O:Nat->Prop}{sb:Nat}{s s':FL}{w:World}{l:List AJ}{vc:Value}(h:At O sb s w)(hv:VR O w vc (.sl 2 (a7 AP l)))(hl:l.length<1099511627776)(hr:curve s l=a' s'):
  Calls Tryz.prog 91 #[.pointer (a' ⟨sb,0,b0⟩),vc] w fun e w'=>e = .returned (.tuple #[])∧Em O sb w s' w':=by
 obtain⟨q,U,hr⟩:=AN hr;obtain⟨a,cap,rfl,hp⟩:=AFr hv;obtain⟨i0,hi,ao,aj,ae⟩:=info_parts Ql;obtain⟨n,hn⟩:∃ n,n=l.length:=⟨_,rfl⟩;rw[← hn];have H:=a6 h;have HQ:=a6 U;have HR:=a6 hr;have HP:=a6 hp;have HN:=a6 hn;have HI:=a6 hi;have HZ:=a6 ao;have H1:=a6 aj;have H2:=a6 ae;have cc:n<1099511627776:=by omega
 clear h U hr hp hv hl hn hi ao aj ae
 go_enter Tryz.func91,Tryz.ntmps91
 go_wp2
 obtain⟨N,hN⟩:∃ N,N=w.heap.size:=⟨_,rfl⟩;have p:ABG N w (w.alloc (.cells #[] 9)) (.slice (a' ⟨N,0,b0⟩) 0 0) []:=⟨by rw[hN];exact Pi (fg w) (Nat.le_refl _),AG.alloc _ w _,hN⟩;rw[← hN];obtain⟨w1,au⟩:∃ w1,w1=w.alloc (.cells #[] 9):=⟨_,rfl⟩;rw[← au] at p ⊢;have HO:=a6 p;clear au p hN
 go_loopw [4,5] (fun lv i wr=>∃ (j:Nat) (acc:List (List UInt8)) (g c:Nat),j<=n∧lv = .slice (a' ⟨g,0,b0⟩) acc.length c∧i = .int .i64 j∧Hid (ABG N w wr (.slice (a' ⟨g,0,b0⟩) acc.length c) acc)∧Hid (RM acc (l.drop j)=a' q)) (fun _ i _=>n-(intOf i).toNat)
 case atStart=>exact⟨0,[],N,0,Nat.zero_le _,rfl,rfl,HO,by simpa using HQ⟩
 case round=>
  clear HO;obtain⟨j,acc,g,c,hj,rfl,rfl,p,U⟩:=hrel
  by_cases ab:j<n
  ·obtain⟨b,off,rfl,hb,aa⟩:=HP.out (by rw[← HN.out];omega);have o:=U.out;rw[Rw (by rw[← HN.out];exact ab),RM] at o;have p0:=p.out.same.cell id (aa.c0 j (by rw[← HN.out];exact ab));have p1:=p.out.same.cell id (aa.c1 j (by rw[← HN.out];exact ab));obtain⟨P,hP⟩:∃ P,l.getD j default=P:=⟨_,rfl⟩;rw[hP] at o p0 p1;obtain⟨X,hX,o⟩:=AN o;obtain⟨ax,o⟩:=AO o;obtain⟨Y,hY,o⟩:=AN o;obtain⟨J,o⟩:=AO o;simp only[baT] at J;have ax:¬ 9223372036854775807<X.length+1:=Nat.not_lt.2 (of_decide_eq_true ax);have cf:acc.length<1099511627776:=of_decide_eq_true J.2;have J:¬ 9223372036854775807<X.length+1+Y.length:=Nat.not_lt.2 (of_decide_eq_true J.1);have HX:=a6 hX;have HY:=a6 hY;have a8:=a6 o;obtain⟨T,hT⟩:∃ T,P.Time=T:=⟨_,rfl⟩;obtain⟨M,hM⟩:∃ T,P.Mag=T:=⟨_,rfl⟩;rw[hT] at p0 HX;rw[hM] at p1 HY;have cn:=Nat.lt_of_lt_of_le hb p.out.same.size
   have av:b≠g:=fun e=>by
    have:=(Iv p.out.row (b:=g) rfl).1;have:=p.out.n;omega
   have cm:(0:Int)<=(j:Int):=by omega
   have cl:(j:Int)<(n:Int):=by omega
   have HH:=a6 (H.out.still p.out.same);clear hX hY o U aa hT hM hP HP
   go_wp2
   go_region_held3 (fun w'=>w'.cell? ⟨b,off+j*2,b0⟩=a' (.int .i64 T)∧w'.cell? ⟨b,off+j*2+1,b0⟩=a' (.int .i64 M)) (first|exact R.out|exact⟨p0,p1⟩|exact⟨(AG.alloc (fun _=>False) _ _).cell id R.out.1,(AG.alloc (fun _=>False) _ _).cell id R.out.2⟩) (first
    | (go_at_call 84;refine (eg HX.out (HH.out.still (AG.drew _ _)).lo (HH.out.still (AG.drew _ _)).gt).mono ?_;rintro e w2 ⟨rfl,I⟩;have R:=a6 (show _∧_ from ⟨I.cell id p0,I.cell id p1⟩);have S2:=a6 ((AG.drew (fun _=>False) _).trans I);have a1:=a6 (HH.out.still S2.out);clear I)
    | (go_at_call 128;refine (AFY HY.out a1.out.lo a1.out.gt).mono ?_;rintro e w3 ⟨rfl,C⟩;have R:=a6 (show _∧_ from ⟨C.cell id R.out.1,C.cell id R.out.2⟩);have S3:=a6 (S2.out.trans C);clear C)
    | (refine step_append_lies _ (by rfl) _ _ _ (by rfl) N 9 i0 _ 1 16 Qk HI.out HZ.out H1.out H2.out rfl (by omega) (.slice (a' ⟨g,0,b0⟩) acc.length c) acc.length (Kk acc) (by rfl) (World.ownsRow.alloc (Iu p.out.row S3.out (fun _ _=>id)) _) ⟨w3.heap.size,0,b0⟩ 1 1 [.string (⟨X.toArray⟩++⟨#[32]⟩++⟨Y.toArray⟩)] (by rfl) (by rfl) (World.news_of_block (cs:=#[.string (⟨X.toArray⟩++⟨#[32]⟩++⟨Y.toArray⟩)]) (t:=9) (fr:=(0,0)) (heap_alloc_new w3 _)) (by simp[Value.oneCell']) (by omega) (by unfold maxLen;omega) (by omega) (by have:=p.out.n;have:=p.out.same.size;have:=S3.out.size;simp;omega) (w3.heap.size+1) (by simp) ?_;intro g2 c2 w4 o4 ac c5 cb;have R:=a6 (show _∧_ from ⟨(ac.cell_far ⟨b,off+j*2,b0⟩ (by have:=S3.out.size;simp;omega) (fun e=>av (ay e))).trans ((AG.alloc (fun _=>False) _ _).cell id R.out.1),(ac.cell_far ⟨b,off+j*2+1,b0⟩ (by have:=S3.out.size;simp;omega) (fun e=>av (ay e))).trans ((AG.alloc (fun _=>False) _ _).cell id R.out.2)⟩)))
   go_wp2
   go_roundw
   case rel=>exact⟨j+1,acc++[X++[32]++Y],g2,c2,by omega,by simp,by go_num,a6 (by rw[List.length_append];exact p.out.more (S3.out.trans (AG.alloc _ _ _)) (by rw[AKU] at o4;exact o4) ac),a8⟩
   case measure=>simp[intOf];omega
  ·obtain rfl:j=n:=by omega
   have o:=U.out;rw[HN.out,b2,RM] at o;obtain rfl:=ay o;have HO:=a6 p.out;clear U o p
   go_wp2_with (go_at_call 89;refine (kO (H.out.still HO.out.same) (l:=acc) (ce HO.out.row) HR.out).mono ?_;rintro e w2 ⟨rfl,he⟩;have E2:=a6 he;clear he)
   refine bodyPost_end (results_none rfl _ _ _) rfl ?_;exact⟨rfl,Em.behind HO.out.same E2.out⟩
theorem agg2{O:Nat->Prop}{w:World}{a b:Value}{x1 x2:AV}(i:VR O w a x1)(h2:VR O w b x2)(hs:[x1,x2].all AV.atom=true):VR O w (.agg #[a,b]) (.agg [x1,x2]):=by
 simp only[List.all_cons,List.all_nil,Bool.and_true,baT] at hs;refine .agg rfl (fun k g=>?_) (fun k g=>?_)
 ·match k,g with
  | 0,_=>exact hs.1
  | 1,_=>exact hs.2
 ·match k,g with
  | 0,_=>exact i
  | 1,_=>exact h2
theorem qX{S:Nat->Prop}{w:World}{v:Value}{l:List Int}(h:VR S w v (.sl 1 (a7 (AV.int .i64) l))):
  ∃ a cap,v = .slice a l.length cap∧(0<l.length->∃ b off,a=a' ⟨b,off,b0⟩∧∀ k,k<l.length->w.cell? ⟨b,off+k,b0⟩=a' (.int .i64 (l.getD k 0))):=by
 cases h with
 | @sl a n cap sz els b off rd P o C R T p I=>
  have g:(a7 (AV.int .i64) l).length=l.length:=by simp
  refine⟨a,cap,by rw[P,g],fun J=>⟨b,off,(R (by rw[g];exact J)).1,fun k j=>?_⟩⟩;have q:=p k 0 (by rw[g];exact j) (by omega);have r:=I k 0 (by rw[g];exact j) (by omega);have e:(a7 (AV.int .i64) l).getD k .any = .int .i64 (l.getD k 0):=by simp[gdE,j]
  rw[e] at r;have r:VR S w (rd k 0) (.int .i64 (l.getD k 0)):=r;have i:∀ {u:Value} {k:IntKind} {z:Int},VR S w u (.int k z)->u = .int k z:=fun h=>by cases h;rfl
  rw[Nat.mul_one,Nat.add_zero,i r] at q;exact q
theorem Wy{O:Nat->Prop}{w:World}{l:List AJ}{p:Int}{y:List Int×Int}{g:Value}(h:EV ⟨0,p⟩ l=a' y)(i:VR O w g (.sl 2 (a7 AP l)))(lo:∀ b,O b->b<w.heap.size)(gt:GT O w):
  Calls Tryz.prog 145 #[.agg #[.int .i64 0,.int .i64 p],g] w fun e w'=>∃ u,e = .returned (.tuple #[u,.int .i64 y.2])∧AG (fun _=>False) w w'∧VR O w' u (.sl 1 (a7 (AV.int .i64) y.1)) :=
 (DG s_159.s Tryz.func145 rfl (by decide +kernel) (args:=[BK ⟨0,p⟩,.sl 2 (a7 AP l)]) (vargs:=#[.agg #[.int .i64 0,.int .i64 p],g]) rfl (by rw[AKy];rfl) rfl (RA (agg2 .int .int rfl) i) lo gt (AIe h)).mono fun e w' ⟨u,C,h2,o⟩=>by
  obtain⟨a,rfl,j⟩:=KU o;exact⟨a,C,h2,j⟩
theorem cat2{x y:List UInt8}:((⟨x.toArray⟩:ByteArray)++⟨y.toArray⟩)=⟨(x++y).toArray⟩:=by
 apply ByteArray.ext;simp[ByteArray.data_append]
attribute [local irreducible] Calls in
theorem AGg{O:Nat->Prop}{sb:Nat}{s s':FL}{w:World}{l:List AJ}{vc:Value}(h:At O sb s w)(hv:VR O w vc (.sl 2 (a7 AP l)))(I:xP s l=a' s'):
  Calls Tryz.prog 94 #[.pointer (a' ⟨sb,0,b0⟩),vc] w fun e w'=>e = .returned (.tuple #[])∧Em O sb w s' w':=by
 obtain⟨hb,I⟩:=AO I;have hb:1<=s.nums.length:=of_decide_eq_true hb;obtain⟨y,hy,I⟩:=AN I;obtain⟨⟨b,s1⟩,P,I⟩:=AN I;obtain⟨ac,nc,cc,rfl⟩:=sl_of hv;obtain⟨va,vb,v,h⟩:=h;obtain⟨_,_,_,_,c4,_,_,_⟩:=h.cells;obtain⟨gn,cn,en,ln,av⟩:=Rn h (by omega);rw[en] at c4;have n0:=av 0 (by omega);obtain⟨nn,ad⟩:∃ n,n=s.nums.length:=⟨_,rfl⟩;obtain⟨N0,e0⟩:∃ x,s.nums.getD 0 0=x:=⟨_,rfl⟩;rw[e0] at n0 hy;rw[← ad] at c4;have i0:0<nn:=by omega
 have H:=a6 h;have HV:=a6 hv;have HY:=a6 hy;have HQ:=a6 P;have HR:=a6 I;clear h hv hy P I av e0 ad hb en
 go_enter Tryz.func94,Tryz.ntmps94
 cases b with
 | true=>
  obtain rfl:=AR (show a' s1=a' s' from HR.out)
  go_wp2_with (first
   | (go_at_call 145;refine (Wy HY.out HV.out H.out.lo H.out.gt).mono ?_;rintro e w1 ⟨u,rfl,p,T⟩;have R:=a6 p;clear p T)
   | (go_at_call 19;refine (GV ⟨_,_,_,H.out.still R.out⟩ HQ.out).mono ?_;rintro e w2 ⟨rfl,J⟩;have E2:=a6 J;clear J))
  refine bodyPost_ret (results_none rfl _ _ _) rfl ?_;exact⟨rfl,Em.behind R.out E2.out⟩
 | false=>
  obtain⟨C,aa⟩:=AO (show ck (few y.1.length) ((Ul 0 [] y.1).bind (fun t=>Mv s1 (if t=[] then [45] else t)))=a' s' from HR.out);obtain⟨t,ht,U⟩:=AN aa;have C:y.1.length<1099511627776:=of_decide_eq_true C;have HT:=a6 ht;have HS:=a6 U;clear ht U HR aa
  go_wp2_with (first
   | (go_at_call 145;refine (Wy HY.out HV.out H.out.lo H.out.gt).mono ?_;rintro e w1 ⟨u,rfl,p,T⟩;obtain⟨au,ku,rfl,hp⟩:=qX T;have HU:=a6 T;have R:=a6 p;clear p T hp)
   | (go_at_call 19;refine (GV ⟨_,_,_,H.out.still R.out⟩ HQ.out).mono ?_;rintro e w2 ⟨rfl,O1,a1,b1,x1,q1⟩;have A1:=a6 a1;have B1:=a6 b1;have X1:=a6 x1;have Q1:=a6 q1;clear a1 b1 x1 q1))
  obtain⟨d5,df,eu,hp⟩:=qX (VR.ext HU.out X1.out B1.out);injection eu with e1 _ e2
  subst e1 e2;have HP:=a6 hp;obtain⟨n,hn⟩:∃ n,n=y.1.length:=⟨_,rfl⟩;rw[← hn];have b8:n<1099511627776:=by omega
  have HN:=a6 hn;clear hp hn c4 n0 C
  go_loopw [6,7] (fun ov i wr=>∃ (j:Nat) (acc:List UInt8),j<=n∧ov = .string ⟨acc.toArray⟩∧i = .int .i64 j∧Hid (AG (fun _=>False) w2 wr)∧Hid (Ul j acc (y.1.drop j)=a' t)) (fun _ i _=>n-(intOf i).toNat)
  case atStart=>exact⟨0,[],Nat.zero_le _,rfl,rfl,a6 (AG.refl _ _),by simpa using HT⟩
  case round=>
   obtain⟨j,acc,hj,rfl,rfl,hs,P⟩:=hrel
   by_cases ao:j<n
   ·obtain⟨b,off,rfl,ab⟩:=HP.out (by rw[← HN.out];omega);have g:=P.out;rw[Rw (by rw[← HN.out];exact ao),Ul] at g;have p0:=hs.out.cell id (ab j (by rw[← HN.out];exact ao));obtain⟨Z,hZ⟩:∃ Z,y.1.getD j 0=Z:=⟨_,rfl⟩;rw[show y.1.getD j default=Z from hZ] at g;rw[hZ] at p0;obtain⟨aj,g⟩:=AO g;obtain⟨X,hX,g⟩:=AN g;obtain⟨ae,g⟩:=AO g;have aj:acc.length<1099511627776:=of_decide_eq_true aj;have ae:acc.length+1+X.length<=9223372036854775807:=of_decide_eq_true ae;have HX:=a6 hX;have ax:=a6 g;have dw:(0:Int)<=(j:Int):=by omega
    have ds:(j:Int)<(n:Int):=by omega
    have HH:=a6 (Q1.out.still hs.out);clear hX g P ab hZ HP;have dz:¬ 9223372036854775807<acc.length+X.length:=by omega
    have ca:¬ 9223372036854775807<acc.length+1:=by omega
    have b9:¬ 9223372036854775807<acc.length+1+X.length:=by omega
    cases j with
    | zero=>
     rw[Nat.add_zero] at p0
     go_wp2_with (go_at_call 84;refine (eg HX.out HH.out.lo HH.out.gt).mono ?_;rintro e w3 ⟨rfl,o⟩;have S3:=a6 (hs.out.trans o);clear o)
     go_roundw
     case rel=>exact⟨1,acc++X,by omega,by rw[cat2],by go_num,S3,ax⟩
     case measure=>simp[intOf];omega
    | succ j=>
     go_wp2_with (go_at_call 84;refine (eg HX.out HH.out.lo HH.out.gt).mono ?_;rintro e w3 ⟨rfl,o⟩;have S3:=a6 (hs.out.trans o);clear o)
     go_roundw
     case rel=>exact⟨j+2,acc++[32]++X,by omega,by rw[← AKU],by go_num,S3,ax⟩
     case measure=>simp[intOf];omega
   ·obtain rfl:j=n:=by omega
    have g:=P.out;rw[HN.out,b2,Ul] at g;obtain rfl:=ay g;have HO:=a6 hs.out;clear P g hs;cases acc with
    | nil=>
     go_wp2_with (go_at_call 21;refine (Wn (t:=[45]) (Q1.out.still HO.out) HS.out).mono ?_;rintro e w3 ⟨rfl,J⟩;have E3:=a6 J;clear J)
     refine bodyPost_end (results_none rfl _ _ _) rfl ?_;exact⟨rfl,Em.behind R.out (Em.then A1.out B1.out X1.out (Em.behind HO.out E3.out))⟩
    | cons c r=>
     go_wp2_with (go_at_call 21;refine (Wn (t:=c::r) (Q1.out.still HO.out) HS.out).mono ?_;rintro e w3 ⟨rfl,J⟩;have E3:=a6 J;clear J)
     refine bodyPost_end (results_none rfl _ _ _) rfl ?_;exact⟨rfl,Em.behind R.out (Em.then A1.out B1.out X1.out (Em.behind HO.out E3.out))⟩
end Go.Proofs.YtegmpdmpgmpiaaaGreatDoor.l28
