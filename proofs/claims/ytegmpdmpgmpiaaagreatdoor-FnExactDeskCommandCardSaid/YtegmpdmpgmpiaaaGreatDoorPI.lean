/- Lemmas. No condition. -/
import Derived.Test.YtegmpdmpgmpiaaaGreatDoorPE
open Go.Lib renaming hid->a8
open List renaming map->a',drop_length->b5
open Option renaming some->b3,none->b4
open Option.some renaming inj->b2
set_option linter.defProp false
set_option linter.unusedSimpArgs false
set_option linter.unusedVariables false
set_option maxRecDepth 100000
set_option maxHeartbeats 8000000
namespace Go.Proofs.YtegmpdmpgmpiaaaGreatDoor.l28
open Go Go.RowKit plot rdc
variable{O:Nat->Prop}{w:World}
def AKM{k:Int}{n:L8}(h:Ch k=b3 n)(lo:∀b,O b->b<w.heap.size)(gt:GT O w):
  Calls Tryz.prog 128 #[.int .i64 k] w fun e w'=>e = .returned (.string ⟨n.toArray⟩)/\AD C' w w' :=
 (DR s_178.s Tryz.func128 rfl z' (args:=[.int .i64 k]) (vargs:=#[.int .i64 k]) rfl (by rw[APy];rfl) rfl (hv1 .int) lo gt (mA h)).mono fun e w' ⟨u,C,h2,j⟩=>by cases j;exact⟨C,h2⟩
structure PtAt(W:World)(b off:Nat)(l:List AJ):Prop where
 c0:∀k,k<l.length->W.cell? ⟨b,off+k*2,b4⟩=b3 (.int .i64 (l.getD k default).Time)
 c1:∀k,k<l.length->W.cell? ⟨b,off+k*2+1,b4⟩=b3 (.int .i64 (l.getD k default).Mag)
variable{S:Nat->Prop}{v:Value}{l:List AJ}
def AKe(h:VR S w v (.sl 2 (a' AQ l))):
  ∃a cap,v = .slice a l.length cap/\(0<l.length->∃b off,a=b3 ⟨b,off,b4⟩/\b<w.heap.size/\PtAt w b off l):=by
 cases h with
 | @sl a n cap sz els b off rd hn aa ab ha hc hw hr=>
  have I:(a' AQ l).length=l.length:=p'
  refine⟨a,cap,by rw[hn,I],fun R=>?_⟩;obtain⟨e,_⟩:=ha (by rw[I];exact R);have hb:=World.block_lt_of_cell? w ⟨b,off+(0*2+0),b4⟩ (hw 0 0 (by rw[I];exact R) n')
  have J:∀k,k<l.length->(a' AQ l).getD k .any=AQ (l.getD k default):=fun k C=>by
   simp[gdE,C]
  have one:∀k j,k<l.length->j<2->w.cell? ⟨b,off+(k*2+j),b4⟩=b3 (rd k j)/\VR S w (rd k j) ((AQ (l.getD k default)).cells.getD j .any):=fun k j C U=>by
   refine⟨hw k j (by rw[I];exact C) U,?_⟩;have:=hr k j (by rw[I];exact C) U
   rwa [J k C]at this
  have i:∀{u:Value} {k:IntKind} {z:Int},VR S w u (.int k z)->u = .int k z:=fun h=>by cases h;rfl
  refine⟨b,off,e,hb,⟨fun k C=>?_,fun k C=>?_⟩⟩
  .obtain⟨q,r⟩:=one k 0 C n';rw[←i r];exact q
  .obtain⟨q,r⟩:=one k 1 C n';rw[←i r];exact q
def WI{α:Type}[Inhabited α]{l:List α}{j:Nat}(h:j<l.length):l.drop j=l.getD j default::l.drop (j+1):=by
 rw[List.drop_eq_getElem_cons h,gdE,geE h];rfl
structure sU(N:Nat)(w0 w:World)(u:Value)(acc:List L8):Prop where
 row:RZ N w u acc
 same:AD C' w0 w
 n:N=w0.heap.size
variable{N:Nat}{acc:List L8}{x:L8}
def sU.more{I C w2:World}{u J:Value}(h:sU N I w u acc)(U:AD C' w C)(R:w2.ownsRow N 9 1 J (acc.length+1) (MQ acc++[.string ⟨x.toArray⟩]))(j:C.grownBy w2 u.ownBlock):sU N I w2 J (acc++[x]):=by
 refine⟨by simpa[RZ,MQ,strV]using R,?_,h.n⟩;have hs:=h.same.trans U;refine⟨j.os.trans hs.os,j.tape.trans hs.tape,j.output.trans hs.output,Nat.le_trans hs.size j.size,fun b hb _=>?_⟩;rw[j.block b (Nat.lt_of_lt_of_le hb hs.size) (fun c=>by have:=(Kh h.row c.symm).1;have:=h.n;omega),hs.block b hb id]
def gA{g c:Nat}(h:RZ N w (.slice (b3 ⟨g,0,b4⟩) acc.length c) acc):OD w g 0 acc:=fun k j=>by
 rw[Nat.zero_add,Nz h j,MQ,gdE,List.getElem?_map,gdE,geE j];rfl
variable{y:L8}
def APW{z:L8}:((⟨x.toArray⟩:ByteArray)++⟨y.toArray⟩++⟨z.toArray⟩)=⟨(x++y++z).toArray⟩:=by
 apply ByteArray.ext;simp[ByteArray.data_append]
variable{sb:Nat}{s s':GV}{vc:Value}
attribute [local irreducible] Calls in
def AFx(h:At O sb s w)(hv:VR O w vc (.sl 2 (a' AQ l)))(hl:l.length<1099511627776)(hr:curve s l=b3 s'):
  Calls Tryz.prog 91 #[.pointer (b3 ⟨sb,0,b4⟩),vc] w fun e w'=>e = .returned (.tuple #[])/\GI O sb w s' w':=by
 obtain⟨q,hq,hr⟩:=AO hr;obtain⟨a,cap,rfl,hp⟩:=AKe hv;obtain⟨i0,hi,ay,ax,au⟩:=info_parts Rq;obtain⟨n,hn⟩:∃n,n=l.length:=⟨_,rfl⟩;rw[←hn];have H:=a8 h;have HQ:=a8 hq;have HR:=a8 hr;have HP:=a8 hp;have HN:=a8 hn;have HI:=a8 hi;have HZ:=a8 ay;have H1:=a8 ax;have H2:=a8 au;have ct:n<1099511627776:=n'
 clear h hq hr hp hv hl hn hi ay ax au
 go_enter Tryz.func91,Tryz.ntmps91
 go_wp2
 obtain⟨N,hN⟩:∃N,N=w.heap.size:=⟨_,rfl⟩;have I:sU N w (w.alloc (.cells #[] 9)) (.slice (b3 ⟨N,0,b4⟩) 0 0) []:=⟨by rw[hN];exact Qj (kH w) (Nat.le_refl _),AD.alloc _ w _,hN⟩;rw[←hN];obtain⟨w1,az⟩:∃w1,w1=w.alloc (.cells #[] 9):=⟨_,rfl⟩;rw[←az]at I ⊢;have HO:=a8 I;clear az I hN
 go_loopw [4,5] (fun lv i wr=>∃(j:Nat) (acc:List L8) (g c:Nat),j<=n/\lv = .slice (b3 ⟨g,0,b4⟩) acc.length c/\i = .int .i64 j/\Hid (sU N w wr (.slice (b3 ⟨g,0,b4⟩) acc.length c) acc)/\Hid (Se acc (l.drop j)=b3 q)) (fun _ i _=>n-(intOf i).toNat)
 case atStart=>exact⟨0,[],N,0,Nat.zero_le _,rfl,rfl,HO,by simpa using HQ⟩
 case round=>
  clear HO;obtain⟨j,acc,g,c,hj,rfl,rfl,I,hq⟩:=hrel
  by_cases ae:j<n
  .obtain⟨b,off,rfl,hb,ad⟩:=HP.out (by rw[←HN.out];omega);have C:=hq.out;rw[WI (by rw[←HN.out];exact ae),Se]at C;have p0:=I.out.same.cell id (ad.c0 j (by rw[←HN.out];exact ae));have p1:=I.out.same.cell id (ad.c1 j (by rw[←HN.out];exact ae));obtain⟨P,hP⟩:∃P,l.getD j default=P:=⟨_,rfl⟩;rw[hP]at C p0 p1;obtain⟨X,hX,C⟩:=AO C;obtain⟨a6,C⟩:=AY C;obtain⟨Y,hY,C⟩:=AO C;obtain⟨U,C⟩:=AY C;simp only[baT]at U;have a6:¬ 9223372036854775807<X.length+1:=Nat.not_lt.2 (of_decide_eq_true a6);have c6:acc.length<1099511627776:=of_decide_eq_true U.2;have U:¬ 9223372036854775807<X.length+1+Y.length:=Nat.not_lt.2 (of_decide_eq_true U.1);have HX:=a8 hX;have HY:=a8 hY;have b0:=a8 C;obtain⟨T,hT⟩:∃T,P.Time=T:=⟨_,rfl⟩;obtain⟨M,hM⟩:∃T,P.Mag=T:=⟨_,rfl⟩;rw[hT]at p0 HX;rw[hM]at p1 HY;have db:=Nat.lt_of_lt_of_le hb I.out.same.size
   have a1:b≠g:=fun e=>by
    have:=(Kh I.out.row (b:=g) rfl).1;have:=I.out.n;omega
   have c8:(0:Int)<=(j:Int):=n'
   have c7:(j:Int)<(n:Int):=n'
   have HH:=a8 (H.out.still I.out.same);clear hX hY C hq ad hT hM hP HP
   go_wp2
   go_region_held3 (fun w'=>w'.cell? ⟨b,off+j*2,b4⟩=b3 (.int .i64 T)/\w'.cell? ⟨b,off+j*2+1,b4⟩=b3 (.int .i64 M)) (first|exact HS.out|exact⟨p0,p1⟩|exact⟨(AD.alloc C' _ _).cell id HS.out.1,(AD.alloc C' _ _).cell id HS.out.2⟩) (first
    |(go_at_call 84;refine(jX HX.out (HH.out.still (AD.drew _ _)).lo (HH.out.still (AD.drew _ _)).gt).mono ?_;rintro e w2 ⟨rfl,R⟩;have HS:=a8 (show _/\_ from⟨R.cell id p0,R.cell id p1⟩);have S2:=a8 ((AD.drew C' _).trans R);have ba:=a8 (HH.out.still S2.out);clear R)
    |(go_at_call 128;refine(AKM HY.out ba.out.lo ba.out.gt).mono ?_;rintro e w3 ⟨rfl,J⟩;have HS:=a8 (show _/\_ from⟨J.cell id HS.out.1,J.cell id HS.out.2⟩);have S3:=a8 (S2.out.trans J);clear J)
    |(refine step_append_lies _ (by rfl) _ _ _ (by rfl) N 9 i0 _ 1 16 Rp HI.out HZ.out H1.out H2.out rfl n' (.slice (b3 ⟨g,0,b4⟩) acc.length c) acc.length (MQ acc) (by rfl) (World.ownsRow.alloc (LG I.out.row S3.out (fun _ _=>id)) _) ⟨w3.heap.size,0,b4⟩ 1 1 [.string (⟨X.toArray⟩++⟨#[32]⟩++⟨Y.toArray⟩)] (by rfl) (by rfl) (World.news_of_block (cs:=#[.string (⟨X.toArray⟩++⟨#[32]⟩++⟨Y.toArray⟩)]) (t:=9) (fr:=(0,0)) (heap_alloc_new w3 _)) (by simp[Value.oneCell']) n' (by unfold maxLen;omega) n' (by have:=I.out.n;have:=I.out.same.size;have:=S3.out.size;simp;omega) (w3.heap.size+1) p' ?_;intro g2 c2 w4 o4 aj dc cn;have HS:=a8 (show _/\_ from⟨(aj.cell_far ⟨b,off+j*2,b4⟩ (by have:=S3.out.size;simp;omega) (fun e=>a1 (b2 e))).trans ((AD.alloc C' _ _).cell id HS.out.1),(aj.cell_far ⟨b,off+j*2+1,b4⟩ (by have:=S3.out.size;simp;omega) (fun e=>a1 (b2 e))).trans ((AD.alloc C' _ _).cell id HS.out.2)⟩)))
   go_wp2
   go_roundw
   case rel=>exact⟨j+1,acc++[X++[32]++Y],g2,c2,n',p',by go_num,a8 (by rw[List.length_append];exact I.out.more (S3.out.trans (AD.alloc _ _ _)) (by rw[APW]at o4;exact o4) aj),b0⟩
   case measure=>simp[intOf];omega
  .obtain rfl:j=n:=n'
   have C:=hq.out;rw[HN.out,b5,Se]at C;obtain rfl:=b2 C;have HO:=a8 I.out;clear hq C I
   go_wp2_with (go_at_call 89;refine(oB (H.out.still HO.out.same) (l:=acc) (gA HO.out.row) HR.out).mono ?_;rintro e w2 ⟨rfl,he⟩;have E2:=a8 he;clear he)
   refine bodyPost_end (results_none rfl _ _ _) rfl ?_;exact⟨rfl,GI.behind HO.out.same E2.out⟩
def agg2{a b:Value}{x1 x2:AV}(C:VR O w a x1)(h2:VR O w b x2)(hs:[x1,x2].all AV.atom=true):VR O w (.agg #[a,b]) (.agg [x1,x2]):=by
 simp only[List.all_cons,List.all_nil,Bool.and_true,baT]at hs;refine .agg rfl (fun k j=>?_) (fun k j=>?_)
 .match k,j with
  |0,_=>exact hs.1
  |1,_=>exact hs.2
 .match k,j with
  |0,_=>exact C
  |1,_=>exact h2
def ZM{l:List Int}(h:VR S w v (.sl 1 (a' (AV.int .i64) l))):
  ∃a cap,v = .slice a l.length cap/\(0<l.length->∃b off,a=b3 ⟨b,off,b4⟩/\∀k,k<l.length->w.cell? ⟨b,off+k,b4⟩=b3 (.int .i64 (l.getD k 0))):=by
 cases h with
 | @sl a n cap sz els b off rd hn I J ha hc hw R=>
  have j:(a' (AV.int .i64) l).length=l.length:=p'
  refine⟨a,cap,by rw[hn,j],fun U=>⟨b,off,(ha (by rw[j];exact U)).1,fun k C=>?_⟩⟩;have q:=hw k 0 (by rw[j];exact C) n';have r:=R k 0 (by rw[j];exact C) n';have e:(a' (AV.int .i64) l).getD k .any = .int .i64 (l.getD k 0):=by simp[gdE,C]
  rw[e]at r;have r:VR S w (rd k 0) (.int .i64 (l.getD k 0)):=r;have i:∀{u:Value} {k:IntKind} {z:Int},VR S w u (.int k z)->u = .int k z:=fun h=>by cases h;rfl
  rw[Nat.mul_one,Nat.add_zero,i r]at q;exact q
def YU{p:Int}{y:List Int×Int}{j:Value}(h:Et ⟨0,p⟩ l=b3 y)(C:VR O w j (.sl 2 (a' AQ l)))(lo:∀b,O b->b<w.heap.size)(gt:GT O w):
  Calls Tryz.prog 145 #[.agg #[.int .i64 0,.int .i64 p],j] w fun e w'=>∃u,e = .returned (.tuple #[u,.int .i64 y.2])/\AD C' w w'/\VR O w' u (.sl 1 (a' (AV.int .i64) y.1)) :=
 (DR s_159.s Tryz.func145 rfl z' (args:=[Bf ⟨0,p⟩,.sl 2 (a' AQ l)]) (vargs:=#[.agg #[.int .i64 0,.int .i64 p],j]) rfl (by rw[AQI];rfl) rfl (hv2 (agg2 .int .int rfl) C) lo gt (ANZ h)).mono fun e w' ⟨u,R,h2,J⟩=>by
  obtain⟨a,rfl,I⟩:=tup2_inv J;exact⟨a,R,h2,I⟩
def cat2:((⟨x.toArray⟩:ByteArray)++⟨y.toArray⟩)=⟨(x++y).toArray⟩:=by
 apply ByteArray.ext;simp[ByteArray.data_append]
attribute [local irreducible] Calls in
def ALS(h:At O sb s w)(hv:VR O w vc (.sl 2 (a' AQ l)))(U:ABQ s l=b3 s'):
  Calls Tryz.prog 94 #[.pointer (b3 ⟨sb,0,b4⟩),vc] w fun e w'=>e = .returned (.tuple #[])/\GI O sb w s' w':=by
 obtain⟨hb,U⟩:=AY U;have hb:1<=s.nums.length:=of_decide_eq_true hb;obtain⟨y,hy,U⟩:=AO U;obtain⟨⟨b,s1⟩,hq,U⟩:=AO U;obtain⟨ac,nc,cc,rfl⟩:=sl_of hv;obtain⟨va,vb,v,h⟩:=h;obtain⟨_,_,_,_,c4,_,_,_⟩:=h.cells;obtain⟨gn,cn,en,ln,a6⟩:=TC h n';rw[en]at c4;have n0:=a6 0 n';obtain⟨nn,ao⟩:∃n,n=s.nums.length:=⟨_,rfl⟩;obtain⟨N0,e0⟩:∃x,s.nums.getD 0 0=x:=⟨_,rfl⟩;rw[e0]at n0 hy;rw[←ao]at c4;have i0:0<nn:=n'
 have H:=a8 h;have HV:=a8 hv;have HY:=a8 hy;have HQ:=a8 hq;have HR:=a8 U;clear h hv hy hq U a6 e0 ao hb en
 go_enter Tryz.func94,Tryz.ntmps94
 cases b with
 | true=>
  obtain rfl:=AX (show b3 s1=b3 s' from HR.out)
  go_wp2_with (first
   |(go_at_call 145;refine(YU HY.out HV.out H.out.lo H.out.gt).mono ?_;rintro e w1 ⟨u,rfl,J,hu⟩;have S1:=a8 J;clear J hu)
   |(go_at_call 19;refine(Ii ⟨_,_,_,H.out.still S1.out⟩ HQ.out).mono ?_;rintro e w2 ⟨rfl,he⟩;have E2:=a8 he;clear he))
  refine bodyPost_ret (results_none rfl _ _ _) rfl ?_;exact⟨rfl,GI.behind S1.out E2.out⟩
 | false=>
  obtain⟨R,ae⟩:=AY (show ck (few y.1.length) ((WC 0 [] y.1).bind (fun t=>Nq s1 (if t=[]then [45]else t)))=b3 s' from HR.out);obtain⟨t,ht,ad⟩:=AO ae;have R:y.1.length<1099511627776:=of_decide_eq_true R;have HT:=a8 ht;have HS:=a8 ad;clear ht ad HR ae
  go_wp2_with (first
   |(go_at_call 145;refine(YU HY.out HV.out H.out.lo H.out.gt).mono ?_;rintro e w1 ⟨u,rfl,J,hu⟩;obtain⟨au,ku,rfl,hp⟩:=ZM hu;have HU:=a8 hu;have S1:=a8 J;clear J hu hp)
   |(go_at_call 19;refine(Ii ⟨_,_,_,H.out.still S1.out⟩ HQ.out).mono ?_;rintro e w2 ⟨rfl,O1,a1,b1,x1,q1⟩;have A1:=a8 a1;have B1:=a8 b1;have X1:=a8 x1;have Q1:=a8 q1;clear a1 b1 x1 q1))
  obtain⟨ew,ef,eu,hp⟩:=ZM (VR.ext HU.out X1.out B1.out);injection eu with e1 _ e2
  subst e1 e2;have HP:=a8 hp;obtain⟨n,hn⟩:∃n,n=y.1.length:=⟨_,rfl⟩;rw[←hn];have cf:n<1099511627776:=n'
  have HN:=a8 hn;clear hp hn c4 n0 R
  go_loopw [6,7] (fun ov i wr=>∃(j:Nat) (acc:L8),j<=n/\ov = .string ⟨acc.toArray⟩/\i = .int .i64 j/\Hid (AD C' w2 wr)/\Hid (WC j acc (y.1.drop j)=b3 t)) (fun _ i _=>n-(intOf i).toNat)
  case atStart=>exact⟨0,[],Nat.zero_le _,rfl,rfl,a8 (AD.refl _ _),by simpa using HT⟩
  case round=>
   obtain⟨j,acc,hj,rfl,rfl,hs,hq⟩:=hrel
   by_cases az:j<n
   .obtain⟨b,off,rfl,aj⟩:=HP.out (by rw[←HN.out];omega);have C:=hq.out;rw[WI (by rw[←HN.out];exact az),WC]at C;have p0:=hs.out.cell id (aj j (by rw[←HN.out];exact az));obtain⟨Z,hZ⟩:∃Z,y.1.getD j 0=Z:=⟨_,rfl⟩;rw[show y.1.getD j default=Z from hZ]at C;rw[hZ]at p0;obtain⟨ay,C⟩:=AY C;obtain⟨X,hX,C⟩:=AO C;obtain⟨ax,C⟩:=AY C;have ay:acc.length<1099511627776:=of_decide_eq_true ay;have ax:acc.length+1+X.length<=9223372036854775807:=of_decide_eq_true ax;have HX:=a8 hX;have a7:=a8 C;have ej:(0:Int)<=(j:Int):=n'
    have eg:(j:Int)<(n:Int):=n'
    have HH:=a8 (Q1.out.still hs.out);clear hX C hq aj hZ HP;have ek:¬ 9223372036854775807<acc.length+X.length:=n'
    have cm:¬ 9223372036854775807<acc.length+1:=n'
    have cl:¬ 9223372036854775807<acc.length+1+X.length:=n'
    cases j with
    | zero=>
     rw[Nat.add_zero]at p0
     go_wp2_with (go_at_call 84;refine(jX HX.out HH.out.lo HH.out.gt).mono ?_;rintro e w3 ⟨rfl,I⟩;have S3:=a8 (hs.out.trans I);clear I)
     go_roundw
     case rel=>exact⟨1,acc++X,n',by rw[cat2],by go_num,S3,a7⟩
     case measure=>simp[intOf];omega
    | succ j=>
     go_wp2_with (go_at_call 84;refine(jX HX.out HH.out.lo HH.out.gt).mono ?_;rintro e w3 ⟨rfl,I⟩;have S3:=a8 (hs.out.trans I);clear I)
     go_roundw
     case rel=>exact⟨j+2,acc++[32]++X,n',by rw[←APW],by go_num,S3,a7⟩
     case measure=>simp[intOf];omega
   .obtain rfl:j=n:=n'
    have C:=hq.out;rw[HN.out,b5,WC]at C;obtain rfl:=b2 C;have HO:=a8 hs.out;clear hq C hs;cases acc with
    | nil=>
     go_wp2_with (go_at_call 21;refine(Zq (t:=[45]) (Q1.out.still HO.out) HS.out).mono ?_;rintro e w3 ⟨rfl,he⟩;have E3:=a8 he;clear he)
     refine bodyPost_end (results_none rfl _ _ _) rfl ?_;exact⟨rfl,GI.behind S1.out (GI.then A1.out B1.out X1.out (GI.behind HO.out E3.out))⟩
    | cons c r=>
     go_wp2_with (go_at_call 21;refine(Zq (t:=c::r) (Q1.out.still HO.out) HS.out).mono ?_;rintro e w3 ⟨rfl,he⟩;have E3:=a8 he;clear he)
     refine bodyPost_end (results_none rfl _ _ _) rfl ?_;exact⟨rfl,GI.behind S1.out (GI.then A1.out B1.out X1.out (GI.behind HO.out E3.out))⟩
end Go.Proofs.YtegmpdmpgmpiaaaGreatDoor.l28
