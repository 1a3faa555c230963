/- A function's small form is sound. No condition. -/
import Derived.Test.YtfaenphcgfocnaaGreatDoorEngV
namespace Go.Proofs.YtfaenphcgfocnaaGreatDoor
open Go Go.RowKit
set_option linter.unusedSimpArgs false
set_option linter.unusedVariables false
def uM (P:Program) (vm:List Nat):ResultVar → pM → Bool
 | .tmp t,.t n => vm[n]? == some t
 | .cell a t,.cell agg sz p => vm[p]? == some a && (fe P t == some agg && Ru P t == some sz)
 | _,_ => false
def Zz (P:Program) (vm:List Nat):List ResultVar → List pM → Bool
 | [],[] => true
 | a :: r,b :: q => uM P vm a b && Zz P vm r q
 | _,_ => false
def qX:List Nat → Bool
 | [] => true
 | a :: r => !r.contains a && qX r
def Af (P:Program) (f:FuncId) (fn:CI) (vm:List Nat):Bool :=
 match P.funcs[f]? with
 | none => false
 | some fu => !(fu.name == "runtime.NumGoroutine") && (match fu.body with
  | none => false
  | some c => qX vm && (vm.length == fn.nv && (decide (fn.np ≤ fn.nv) && (vm.take fn.np == List.range fn.np && (vm.all (fun t => decide (t < fu.ntmps)) &&
    (decide (fu.results.size ≤ 4) && (Zz P vm fu.results.toList fn.res && jx P fu.ntmps vm c fn.body)))))))
def db (tmps:Array Value):ResultVar → Sem Value
 | .tmp t => pure (tmps.getD t undef)
 | .cell a t => do loadVar t (← asAddr (tmps.getD a undef))
section
variable {F Iow:Nat → Prop} {w0:World} {g0:Gh} {o0:CB} {g:Gh} {w w':World} {tmps:Array Value} {ds:List Deferred} {vm ss ss':List Nat} {s:St} {P:Program} {T:Ht}
theorem pU (h:FR F g w tmps vm ss s) {n t:Nat} (hc:vm[n]? = some t):SR (AW F g s.ob) w g s.ob (tmps.getD t undef) (s.vs.getD n .any):=by
 have hl:n < vm.length:=by
  rcases Nat.lt_or_ge n vm.length with h' | h'
  ·exact h'
  ·rw [List.getElem?_eq_none h'] at hc; cases hc
 have:=h.vs n hl
 rw [List.getD_eq_getElem?_getD (l:=vm),hc] at this
 exact this
theorem vw (h:FR F g w tmps vm ss s) {rv:ResultVar} {rs:pM} (hc:uM P vm rv rs = true) (hok:(MS s rs).ok = true) :
  ∃ u,(db tmps rv).run P w = .ok u w ∧ SR (AW F g s.ob) w g s.ob u (MS s rs).v:=by
 unfold uM at hc
 split at hc
 ·rename_i t n
  simp only [beq_iff_eq] at hc
  exact ⟨_,rfl,pU h hc⟩
 ·rename_i a t agg sz p
  simp only [Bool.and_eq_true,beq_iff_eq] at hc
  obtain ⟨h1,h2,h3⟩:=hc
  have hv:=pU h h1
  simp only [MS] at hok ⊢
  revert hok
  generalize s.vs.getD p .any = av at hv
  intro hok
  cases av <;> simp only [Tn,bad] at hok <;> try (cases hok; done)
  rename_i k i off
  obtain ⟨ad,u,e,hr,hvv,_⟩:=eB (P:=P) h h2 h3 hv hok
  refine ⟨u,?_,hvv.toSR⟩
  simp [db,e,asAddr,hr]
 ·cases hc
theorem dd {fu:Func} {vs:List Value} (hsz:fu.results.size ≤ 4) (hl:vs.length = fu.results.size) (h:∀ j rv,fu.results.toList[j]? = some rv → (db tmps rv).run P w = .ok (vs.getD j undef) w) :
  (results fu tmps).run P w = .ok (match vs with | [a] => a | _ => .tuple vs.toArray) w:=by
 obtain ⟨l,hl'⟩:∃ l,fu.results = l.toArray:=⟨fu.results.toList,by simp⟩
 rw [hl'] at hsz hl h
 simp only [List.size_toArray] at hsz hl
 have hun:results fu tmps = (do let vs ← fu.results.mapM (db tmps); pure (if h:vs.size = 1 then vs[0] else .tuple vs)):=by
  unfold results
  congr 1
 rw [hun,hl']
 match l,vs,hl,hsz,h with
 | [],[],_,_,_ => simp
 | [a],[x],_,_,h =>
  have h0:=h 0 a rfl
  simp at h0
  simp [h0]
 | [a,b],[x,y],_,_,h =>
  have h0:=h 0 a rfl
  have h1:=h 1 b rfl
  simp at h0 h1
  simp [h0,h1]
 | [a,b,c],[x,y,z],_,_,h =>
  have h0:=h 0 a rfl
  have h1:=h 1 b rfl
  have h2:=h 2 c rfl
  simp at h0 h1 h2
  simp [h0,h1,h2]
 | [a,b,c,d],[x,y,z,u],_,_,h =>
  have h0:=h 0 a rfl
  have h1:=h 1 b rfl
  have h2:=h 2 c rfl
  have h3:=h 3 d rfl
  simp at h0 h1 h2 h3
  simp [h0,h1,h2,h3]
 | _ :: _ :: _ :: _ :: _ :: _,_,_,hsz,_ => simp at hsz
theorem de (h:FR F g w tmps vm ss s):∀ (rvs:List ResultVar) (rs:List pM),Zz P vm rvs rs = true → ((rs.map (MS s)).all (·.ok)) = true →
  ∃ vs:List Value,vs.length = rvs.length ∧ vs.length = rs.length ∧ (∀ j rv,rvs[j]? = some rv → (db tmps rv).run P w = .ok (vs.getD j undef) w) ∧
   ∀ j,j < rs.length → SR (AW F g s.ob) w g s.ob (vs.getD j undef) (((rs.map (MS s)).map (·.v)).getD j .any)
 | [],[],_,_ => ⟨[],rfl,rfl,fun j rv hj => by simp at hj,fun j hj => by simp at hj⟩
 | [],_ :: _,hc,_ => by simp [Zz] at hc
 | _ :: _,[],hc,_ => by simp [Zz] at hc
 | a :: r,b :: q,hc,hok => by
  simp only [Zz,Bool.and_eq_true] at hc
  simp only [List.map_cons,List.all_cons,Bool.and_eq_true] at hok
  obtain ⟨u,h1,h2⟩:=vw h hc.1 hok.1
  obtain ⟨vs,n1,n2,h3,h4⟩:=de h r q hc.2 hok.2
  refine ⟨u :: vs,by simp [n1],by simp [n2],fun j rv hj => ?_,fun j hj => ?_⟩
  ·cases j with
   | zero => simp only [List.getElem?_cons_zero,Option.some.injEq] at hj; subst hj; exact h1
   | succ j => exact h3 j rv (by simpa using hj)
  ·cases j with
   | zero => exact h2
   | succ j => simpa using h4 j (by simpa using hj)
theorem ts {S:Nat → Prop} {ob:CB} {v:Value} {a:AV} (h:SR S w g ob v a) (hok:(CC ob a).ok = true):pS S w g ob (a.key1.headD 0) v (CC ob a).v ∧ (Gb (CC ob a).v = true → a.key1 = [a.key1.headD 0]) ∧ (∀ cs,(CC ob a).v ≠ .tup cs):=by
 cases a <;> simp only [CC,bad,Cb] at hok ⊢ <;> try (cases hok; done)
 case own k =>
  obtain ⟨hm,ho,hv⟩:=h
  simp only [ho,cX,Cb]
  exact ⟨⟨ho,hv⟩,fun _ => rfl,fun cs e => by cases e⟩
 case ref k i off =>
  obtain ⟨hm,ho,hi,hv⟩:=h
  simp only [ho,cW,Dz,Bool.and_eq_true,beq_iff_eq] at hok ⊢
  obtain ⟨rfl,rfl,hl⟩:=hok
  exact ⟨⟨ho,hl,by rw [hv,Nat.zero_mul]; rfl⟩,fun _ => rfl,fun cs e => by cases e⟩
 case fn f a1 a2 =>
  simp only [Dz] at hok ⊢
  refine ⟨?_,fun e => by simp [Gb] at e,fun cs e => by cases e⟩
  have hat:(AV.fn f a1 a2).atoms = true:=by simpa [AV.atoms,AV.cells,AV.atom] using hok
  exact h.atoms hat
 all_goals exact ⟨h,fun e => by simp [Gb] at e,fun cs e => by cases e⟩
theorem cY:∀ (l:List AV) (i j:Nat),DL (l.flatMap AV.key1) = true → i < j → j < l.length → ∀ k,k ∈ (l.getD i .any).key1 → k ∈ (l.getD j .any).key1 → False
 | [],_,_,_,_,h,_,_,_ => by simp at h
 | a :: l,0,j + 1,hd,_,hj,k,h1,h2 => by
  simp only [List.flatMap_cons] at hd
  refine (GF hd).2 k (by simpa using h1) (CK (j:=j) (by simpa using hj) (by simpa using h2))
 | a :: l,i + 1,j + 1,hd,hij,hj,k,h1,h2 => by
  simp only [List.flatMap_cons] at hd
  exact cY l i j (GF hd).1 (by omega) (by simpa using hj) k (by simpa using h1) (by simpa using h2)
 | _ :: _,0,0,_,h,_,_,_,_ => by omega
 | _ :: _,_ + 1,0,_,h,_,_,_,_ => by omega
theorem Qm:∀ (ms:List Md) (i j:Nat),ms[j]? = some .io → Aa (i + j) ∈ Gq ms i
 | [],_,j,h => by simp at h
 | m :: ms,i,0,h => by
  simp only [List.getElem?_cons_zero,Option.some.injEq] at h
  subst h
  simp [Gq]
 | m :: ms,i,j + 1,h => by
  have:=Qm ms (i + 1) j (by simpa using h)
  rw [show i + (j + 1) = i + 1 + j by omega]
  cases m <;> simp only [Gq,List.mem_cons] <;> first | exact this | exact .inr this
theorem ag (ob:CB):∀ (ms:List Md) (i:Nat) (as:List AV) (j:Nat),ms[j]? = some .io → ms.length = as.length → (Qy ob ms i as)[j]? = some (MO ob (i + j) (as.getD j .any) .io)
 | [],_,_,j,h,_ => by simp at h
 | _ :: _,_,[],_,_,h => by simp at h
 | m :: ms,i,a :: as,0,h,_ => by
  simp only [List.getElem?_cons_zero,Option.some.injEq] at h
  subst h
  simp [Qy]
 | m :: ms,i,a :: as,j + 1,h,hl => by
  have:=ag ob ms (i + 1) as j (by simpa using h) (by simpa using hl)
  rw [show i + (j + 1) = i + 1 + j by omega]
  simpa [Qy] using this
end
open Go Go.RowKit
set_option linter.unusedSimpArgs false
set_option linter.unusedVariables false
theorem Lq {P:Program} {f:FuncId} {fu:Func} {c:Code} (hf:P.funcs[f]? = some fu) (hb:fu.body = some c) (hn:(fu.name == "runtime.NumGoroutine") = false) (args:Array Value) (w:World) :
  (callFunc f args).run P w = .ok (.enter f args) w:=by
 have hn':¬ fu.name = "runtime.NumGoroutine":=by simpa using hn
 simp [callFunc,hf,hb,hn']
theorem eT {P:Program} {vm:List Nat} {np:Nat} (h:vm.take np = List.range np) {i:Nat} (hi:i < np):vm.getD i 0 = i ∧ i < vm.length:=by
 have hl:np ≤ vm.length:=by
  have:=congrArg List.length h
  simp at this; omega
 refine ⟨?_,by omega⟩
 have:(vm.take np)[i]? = some i:=by rw [h]; exact List.getElem?_range hi
 rw [List.getElem?_take] at this
 simp only [hi,if_true] at this
 rw [List.getD_eq_getElem?_getD,this]; rfl
theorem ZS {a b:AV} {r:List AV}:Pl (a :: b :: r) = .tup (a :: b :: r):=rfl
theorem yP {F:Nat → Prop} {g0 g:Gh} {w w':World} {args:List AV} {modes:List Md} {tmps:Array Value} {vm:List Nat} {s:St} {ms:List Mk} {vs:List Value}
  (hsh:ED modes args = true) (h:FX F (fun b => ∃ k,LG g0 (Bm 0 args) k ∧ g0.β k = b) w g0 (Bm 0 args) g w' tmps vm [] s) (hn:vs.length = ms.length)
  (hv:∀ j,j < ms.length → SR (AW F g s.ob) w' g s.ob (vs.getD j undef) ((ms.map (·.v)).getD j .any)) (hok:(YB s modes args ms).ok = true) :
  Yh F g0 args modes w (match vs with | [a] => a | _ => .tuple vs.toArray) w' (YB s modes args ms).r (YB s modes args ms).outs g s.ob (fun i => (((ms.map (·.v)).getD (i - 1) .any).key1).headD 0):=by
 simp only [YB,Bool.and_eq_true] at hok ⊢
 obtain ⟨_,_,hgiven,hgive,hback⟩:=hok
 obtain ⟨hlen,hshg⟩:=Lp _ _ hsh
 generalize hrs:ms.map (·.v) = rs at hgiven hgive hv ⊢
 have hrl:rs.length = ms.length:=by rw [← hrs]; simp
 simp only [cV,Bool.and_eq_true] at hgiven
 obtain ⟨hdis,hap⟩:=hgiven
 have hone:∀ j,j < rs.length → pS (AW F g s.ob) w' g s.ob ((rs.getD j .any).key1.headD 0) (vs.getD j undef) (CC s.ob (rs.getD j .any)).v ∧ (Gb (CC s.ob (rs.getD j .any)).v = true → (rs.getD j .any).key1 = [(rs.getD j .any).key1.headD 0]) ∧
   (∀ cs,(CC s.ob (rs.getD j .any)).v ≠ .tup cs):=by
  intro j hj
  refine ts (hv j (by omega)) ?_
  simp only [List.all_eq_true] at hgive
  refine hgive _ (List.mem_map.2 ⟨rs.getD j .any,?_,rfl⟩)
  rw [List.getD_eq_getElem?_getD,List.getElem?_eq_getElem hj]; exact List.getElem_mem hj
 have hgl:∀ j,j < rs.length → (((rs.map (CC s.ob)).map (·.v))).getD j .any = (CC s.ob (rs.getD j .any)).v:=by
  intro j hj
  simp [List.getD_eq_getElem?_getD,List.getElem?_map,List.getElem?_eq_getElem hj]
 have hpos:∀ i,Gs (Pl ((rs.map (CC s.ob)).map (·.v))) i → i - 1 < rs.length ∧ Gb (CC s.ob (rs.getD (i - 1) .any)).v = true ∧ ((rs.length = 1 ∧ i = 0) ∨ (2 ≤ rs.length ∧ 1 ≤ i)):=by
  intro i hi
  match rs,hone,hgl,hi with
  | [],_,_,hi => simp [Pl,Gs,Gb] at hi
  | [a],hone,_,hi =>
   have hnt:=(hone 0 (by simp)).2.2
   simp only [List.map_cons,List.map_nil,Pl,List.getD_cons_zero] at hi hnt
   revert hi hnt
   generalize hx:(CC s.ob a).v = x
   intro hi hnt
   have:i = 0 ∧ Gb x = true:=by
    cases x <;> first | exact absurd rfl (hnt _) | exact hi
   obtain ⟨rfl,hf⟩:=this
   simp only [List.length_singleton,Nat.zero_sub,List.getD_cons_zero,hx]
   exact ⟨by omega,hf,by simp⟩
  | a :: b :: r,_,hgl,hi =>
   simp only [List.map_cons,ZS,Gs] at hi
   obtain ⟨j,rfl,hj,hf⟩:=hi
   have hj':j < (a :: b :: r).length:=by simpa using hj
   have:=hgl j hj'
   simp only [List.map_cons] at this
   rw [this] at hf
   exact ⟨by simpa using hj',by simpa using hf,.inr ⟨by simp,by omega⟩⟩
 refine ⟨h.same,h.home,h.inj,h.nF,h.hio,?_,fun i j hi hj e => ?_,fun i j hi hj e => ?_,fun j hj => ?_⟩
 ·match rs,vs,hone,hgl,hrl,hn with
  | [],[],_,_,_,_ => exact VR.cv
  | [a],[v],hone,_,_,_ =>
   have h1:=hone 0 (by simp)
   simp only [List.map_cons,List.map_nil,Pl,List.getD_cons_zero] at h1 ⊢
   obtain ⟨h1,_,hnt⟩:=h1
   revert h1 hnt
   generalize (CC s.ob a).v = x
   intro h1 hnt
   cases x <;> first | exact absurd rfl (hnt _) | exact h1
  | a :: b :: r,v :: u :: vs,hone,hgl,hrl,hn =>
   simp only [List.map_cons,ZS]
   refine ⟨_,rfl,by simp at hrl hn ⊢; omega,fun j hj => ?_⟩
   have hj':j < (a :: b :: r).length:=by simpa using hj
   have h1:=(hone j hj').1
   have h2:=hgl j hj'
   simp only [List.map_cons] at h2
   rw [h2,Li]
   exact h1
  | [],_ :: _,_,_,hrl,hn => simp at hrl hn; omega
  | [_],[],_,_,hrl,hn => simp at hrl hn; omega
  | [_],_ :: _ :: _,_,_,hrl,hn => simp at hrl hn; omega
  | _ :: _ :: _,[],_,_,hrl,hn => simp at hrl hn; omega
  | _ :: _ :: _,[_],_,_,hrl,hn => simp at hrl hn; omega
 ·obtain ⟨a1,a2,a3⟩:=hpos i hi
  obtain ⟨b1,b2,b3⟩:=hpos j hj
  have k1:=(hone _ a1).2.1 a2
  have k2:=(hone _ b1).2.1 b2
  have e':(rs.getD (i - 1) .any).key1.headD 0 = (rs.getD (j - 1) .any).key1.headD 0:=e
  have m1:(rs.getD (i - 1) .any).key1.headD 0 ∈ (rs.getD (i - 1) .any).key1:=by rw [k1]; simp
  have m2:(rs.getD (i - 1) .any).key1.headD 0 ∈ (rs.getD (j - 1) .any).key1:=by rw [e',k2]; simp
  have:i - 1 = j - 1:=by
   rcases Nat.lt_trichotomy (i - 1) (j - 1) with hlt | heq | hlt
   ·exact (cY rs _ _ hdis hlt b1 _ m1 m2).elim
   ·exact heq
   ·exact (cY rs _ _ hdis hlt a1 _ m2 m1).elim
  omega
 ·obtain ⟨a1,a2,_⟩:=hpos i hi
  have k1:=(hone _ a1).2.1 a2
  have m1:(rs.getD (i - 1) .any).key1.headD 0 ∈ rs.flatMap AV.key1:=CK a1 (by rw [k1]; simp)
  have m2:=Qm modes 0 j hj
  rw [Nat.zero_add] at m2
  have e':(rs.getD (i - 1) .any).key1.headD 0 = Aa j:=e
  rw [← e'] at m2
  exact YU hap m1 m2
 ·have hb:=ag s.ob modes 0 args j hj hlen
  rw [Nat.zero_add] at hb
  have hbok:(MO s.ob j (args.getD j .any) .io).ok = true:=by
   simp only [List.all_eq_true] at hback
   exact hback _ (List.mem_of_getElem? hb)
  have hjl:j < args.length:=by
   rcases Nat.lt_or_ge j args.length with h' | h'
   ·exact h'
   ·rw [List.getElem?_eq_none (by omega)] at hj; cases hj
  have hfm:=(hshg j hjl).2.1 (by rw [List.getD_eq_getElem?_getD,hj]; rfl)
  simp only [MO] at hbok hb
  cases ho:AN (Aa j) s.ob with
  | none => rw [ho] at hbok; simp [YR,bad] at hbok
  | some hm =>
   rw [ho] at hbok hb
   simp only [YR,Dz,beq_iff_eq] at hbok hb
   obtain ⟨h0,p1,p2,p3,p4⟩:=h.par (Aa j) hm (by unfold Aa; omega) ho
   rw [Hl] at p1
   have hout:((Qy s.ob modes 0 args).map (·.v)).getD j .any = (bif Zf (args.getD j .any) then .mem hm.sz hm.els 0 else .fresh hm.sz hm.els):=by
    rw [List.getD_eq_getElem?_getD,List.getElem?_map,hb]; rfl
   rw [hout]
   revert hfm p1 hbok
   generalize args.getD j .any = aj
   intro hfm hbok p1
   cases aj <;> simp only [Fr] at hfm <;> try (cases hfm; done)
   ·rename_i sz e0
    have p1:=Option.some.inj p1
    subst p1
    have hbok:hm.els.length = e0.length:=hbok
    have p2:hm.sz = sz:=p2
    obtain ⟨q1,q2⟩:=p4 hbok
    exact ⟨sz,e0,hm.els,.inl ⟨rfl,by simp [Zf,p2]⟩,hbok,by rw [← p2],q1,q2⟩
   ·rename_i sz e0 ix
    have p1:=Option.some.inj p1
    subst p1
    have hbok:hm.els.length = e0.length:=hbok
    have p2:hm.sz = sz:=p2
    obtain ⟨q1,q2⟩:=p4 hbok
    exact ⟨sz,e0,hm.els,.inr ⟨ix,0,rfl,by simp [Zf,p2]⟩,hbok,by rw [← p2],q1,q2⟩
theorem tw {P:Program} {T:Ht} {f:FuncId} {fn:CI} {vm:List Nat} (hT:JL P T) (hc:Af P f fn vm = true) (L:Nat) (modes:List Md):AU P f ⟨modes,false,fun args => Ky T L fn modes args⟩:=by
 unfold AU
 refine ⟨fun e => Bool.noConfusion e,fun F g0 w args vargs hsh hsz hfr hok => ⟨fun e => Bool.noConfusion e,?_⟩⟩
 simp only at hsh hok ⊢
 unfold Af at hc
 split at hc
 ·cases hc
 rename_i fu hf
 simp only [Bool.and_eq_true,Bool.not_eq_true'] at hc
 obtain ⟨hname,hc⟩:=hc
 split at hc
 ·cases hc
 rename_i c hb
 simp only [Bool.and_eq_true,beq_iff_eq,decide_eq_true_eq,List.all_eq_true] at hc
 obtain ⟨hnd,hvl,hnp,htake,hfit,hr4,hres,hchk⟩:=hc
 unfold DX
 rw [Lq hf hb hname]
 simp only [Ky,fH,Bool.and_eq_true,fits,beq_iff_eq] at hok ⊢
 obtain ⟨⟨_,hal,hml⟩,hfin⟩:=hok
 have hnp2:fn.np ≤ fu.ntmps:=by
  rcases Nat.eq_zero_or_pos fn.np with e | e
  ·omega
  ·obtain ⟨h1,h2⟩:=eT (P:=P) htake (i:=fn.np - 1) (by omega)
   have:=hfit (vm.getD (fn.np - 1) 0) (by rw [List.getD_eq_getElem?_getD,List.getElem?_eq_getElem h2]; exact List.getElem_mem h2)
   omega
 have hvs:vargs.size = fn.np:=by rw [hsz,hal]
 have htm:∀ i,i < fn.np → (vargs ++ Array.replicate (fu.ntmps - vargs.size) undef).getD i undef = vargs.getD i undef:=fun i hi => by
  rw [NI,if_pos (by omega)]
 have hfx:FX F (fun b => ∃ k,LG g0 (Bm 0 args) k ∧ g0.β k = b) w g0 (Bm 0 args) g0 w (vargs ++ Array.replicate (fu.ntmps - vargs.size) undef) vm [] (Sc fn.nv args):=by
  refine ⟨⟨hfr.home,hfr.inj,hfr.nF,hfr.fb,?_,rfl,fun i hi => ?_,fun i hi => by simp at hi,fun t ht => ?_,hfr.tab⟩,At.refl _ _,fun k hk => .inr ⟨k,hk,rfl⟩,fun b hb ⟨k,hk,e⟩ => hfr.nF k hk (by rw [e]; exact hb),fun k hm _ hg => ⟨hm,hg,rfl,Nat.le_refl _,fun _ => ⟨rfl,rfl⟩⟩⟩
  ·simp only [Sc,List.length_append,JJ,List.length_replicate]; omega
  ·simp only [Sc]
   rw [GE,JJ]
   by_cases hlt:i < args.length
   ·rw [if_pos hlt]
    have h1:=hfr.vs i (by simpa using hlt)
    have e1:(List.range args.length).getD i 0 = i:=by rw [List.getD_eq_getElem?_getD,List.getElem?_range hlt]; rfl
    rw [e1] at h1
    rw [(eT (P:=P) htake (by omega)).1,htm i (by omega)]
    exact h1
   ·rw [if_neg hlt]
    have:(List.replicate (fn.nv - args.length) AV.any).getD (i - args.length) .any = .any:=by
     rw [List.getD_eq_getElem?_getD,List.getElem?_replicate]; split <;> rfl
    rw [this]; exact SR.any
  ·rcases ht with ht | ht
   ·have:=hfit t ht
    simp; omega
   ·simp at ht
 have hN:(vargs ++ Array.replicate (fu.ntmps - vargs.size) undef).size = fu.ntmps:=by simp; omega
 refine calls_of_wp hf hb ?_
 generalize hE:Az T L fn.body (Sc fn.nv args) = r at hfin
 have hrok:r.2.ok = true:=by
  obtain ⟨e,s'⟩:=r
  cases e <;> simp only [Ir,YB,Rs.bad,Bool.and_eq_true] at hfin
  ·exact hfin.1
  ·cases hfin
  ·exact hfin.1
 refine Hq (T:=T) (L:=L) (ds:=[]) hT trivial c fn.body hchk hfx hN (by rw [hE]; exact hrok) fun tmps' w' g' hn' hfx' => ?_
 rw [hE] at hfx' ⊢
 have done:∀ s',r.2 = s' → Ir fn modes args r = YB s' modes args (fn.res.map (MS s')) → ({ tmps:=tmps',defers:=[] }:Act).defers = [] ∧ ∃ v,(results fu tmps').run P w' = .ok v w' ∧
   ∃ v' g ob κ,Ending.returned v = Ending.returned v' ∧ Yh F g0 args modes w v' w' (Ir fn modes args r).r (Ir fn modes args r).outs g ob κ:=by
  intro s' e1 e2
  rw [e1] at hfx'
  rw [e2] at hfin ⊢
  have hallok:((fn.res.map (MS s')).all (·.ok)) = true:=by
   simp only [YB,Bool.and_eq_true] at hfin
   exact hfin.2.1
  obtain ⟨vs,n1,n2,hrun,hrel⟩:=de (P:=P) hfx'.toFR fu.results.toList fn.res hres hallok
  have hB:=yP (ms:=fn.res.map (MS s')) (vs:=vs) hsh hfx' (by simpa using n2) (fun j hj => hrel j (by simpa using hj)) hfin
  exact ⟨rfl,_,dd hr4 (by simpa using n1) hrun,_,_,_,_,rfl,hB⟩
 obtain ⟨e,s'⟩:=r
 cases e
 ·exact done s' rfl rfl
 ·simp [Ir,Rs.bad] at hfin
 ·exact done s' rfl rfl
end Go.Proofs.YtfaenphcgfocnaaGreatDoor
