/- A call. No condition. -/
import Derived.Test.YtfaenphcgfocnaaGreatDoorEngO
namespace Go.Proofs.YtfaenphcgfocnaaGreatDoor
open Go Go.RowKit
set_option linter.unusedSimpArgs false
set_option linter.unusedVariables false
theorem DX.mono {P:Program} {f:FuncId} {args:Array Value} {w:World} {R R':Ending → World → Prop} (h:DX P f args w R) (hr:∀ e w',R e w' → R' e w'):DX P f args w R':=by
 unfold DX at h ⊢
 split at h
 ·exact hr _ _ h
 ·exact Calls.mono h hr
 ·exact h.elim
structure Jk (S:Nat → Prop) (pend:Nat → Prop) (g:Gh) (w:World) (tmps:Array Value) (vm ss:List Nat) (s:St):Prop where
 home:∀ k h,¬ pend k → AN k s.ob = some h → GJ S w (g.β k) (g.cap k) h.sz h.els
 vl:s.vs.length = vm.length
 sl:s.st.length = ss.length
 vs:∀ i,i < vm.length → SR S w g s.ob (tmps.getD (vm.getD i 0) undef) (s.vs.getD i .any)
 st:∀ i,i < ss.length → SR S w g s.ob (tmps.getD (ss.getD i 0) undef) (s.st.getD i .any)
 fit:∀ t,t ∈ vm ∨ t ∈ ss → t < tmps.size
def FZ:List Md → List AV → List Nat
 | .mov :: ms,a :: as => a.key1 ++ FZ ms as
 | .bor :: ms,_ :: as => FZ ms as
 | .io :: ms,_ :: as => FZ ms as
 | _,_ => []
section
variable {S:Nat → Prop} {pend:Nat → Prop} {F Iow:Nat → Prop} {w0:World} {g0:Gh} {o0:CB} {g:Gh} {w w':World} {tmps:Array Value} {ds:List Deferred} {vm ss ss':List Nat} {s:St} {P:Program} {o:Oper} {key:Nat}
theorem Jk.forget (h:Jk S pend g w tmps vm ss s) {ob':CB} (φ:AV → AV) (hany:φ .any = .any) (hob:∀ k hm,AN k ob' = some hm → AN k s.ob = some hm)
  (hφ:∀ a,φ a = .any ∨ (φ a = a ∧ ∀ k,k ∈ a.keys → ∀ hm,AN k s.ob = some hm → AN k ob' = some hm)) (ok:Bool) :
  Jk S pend g w tmps vm ss { vs:=s.vs.map φ,st:=s.st.map φ,ob:=ob',ok:=ok }:=by
 have one:∀ {v a},SR S w g s.ob v a → SR S w g ob' v (φ a):=by
  intro v a hv
  rcases hφ a with e | ⟨e,hk⟩
  ·rw [e]; exact SR.any
  ·rw [e]; exact hv.mono (At.refl _ _) (fun _ _ c => c) fun k hkk hm hg => ⟨hm,hk k hkk hm hg,rfl,rfl,rfl,rfl⟩
 exact ⟨fun k hm hp hk => h.home k hm hp (hob k hm hk),by simpa using h.vl,by simpa using h.sl,fun i hi => by rw [Be φ hany]; exact one (h.vs i hi),fun i hi => by rw [Be φ hany]; exact one (h.st i hi),h.fit⟩
theorem Jk.killAll (h:Jk S pend g w tmps vm ss s) (k:Nat):Jk S pend g w tmps vm ss (killAll s k):=by
 refine h.forget (AV.kill k) (eJ k) (fun j hm hk => ?_) (fun a => ?_) s.ok
 ·rw [Cg] at hk; split at hk
  ·cases hk
  ·exact hk
 ·rcases XR k a with e | ⟨e,hn⟩
  ·exact .inl e
  ·refine .inr ⟨e,fun j hj hm hg => ?_⟩
   rw [Cg,if_neg (fun e:k = j => hn (by rw [e]; exact hj))]
   exact hg
theorem Jk.clear (h:Jk S pend g w tmps vm ss s) (d:Nat):Jk S pend g w tmps vm ss (clear s d):=by
 unfold Go.Proofs.YtfaenphcgfocnaaGreatDoor.clear
 rw [AO]
 split
 ·refine h.forget (YK d) (by simp [YK,AV.keys]) (fun k hm hk => ?_) (fun a => ?_) s.ok
  ·rw [Ez] at hk; split at hk
   ·cases hk
   ·exact hk
  ·by_cases hc:a.keys.any (fun k => k / 32 == d) = true
   ·exact .inl (by simp only [YK,AO]; rw [if_pos hc])
   ·refine .inr ⟨by simp only [YK,AO]; rw [if_neg hc],fun k hk hm hg => ?_⟩
    rw [Ez,if_neg (fun e => hc (List.any_eq_true.2 ⟨k,hk,by simp [e]⟩))]
    exact hg
 ·exact h
theorem Jk.setIo (h:Jk S pend g w tmps vm ss s) {k:Nat} {hm h2:Hm} (hk:AN k s.ob = some hm) (hz:h2.sz = hm.sz) (hl:h2.els.length = hm.els.length) (hH:GJ S w (g.β k) (g.cap k) h2.sz h2.els) :
  Jk S (fun j => pend j ∧ j ≠ k) g w tmps vm ss { s with ob:=CD k h2 s.ob }:=by
 have key:∀ j,OJ g g s.ob (CD k h2 s.ob) j:=fun j => OJ.set hk hl hz j
 refine ⟨fun j h' hp hg => ?_,h.vl,h.sl,fun i hi => (h.vs i hi).mono (At.refl _ _) (fun _ _ c => c) fun j _ => key j,fun i hi => (h.st i hi).mono (At.refl _ _) (fun _ _ c => c) fun j _ => key j,h.fit⟩
 simp only [BJ] at hg
 by_cases e:k = j
 ·subst e; rw [if_pos rfl] at hg; cases hg; exact hH
 ·rw [if_neg e] at hg; exact h.home j h' (fun c => hp ⟨c,Ne.symm e⟩) hg
theorem Jk.pend' (h:Jk S pend g w tmps vm ss s) {pend':Nat → Prop} (hp:∀ k,Hb s.ob k → pend k → pend' k):Jk S pend' g w tmps vm ss s :=
 ⟨fun k hm hn hg => h.home k hm (fun c => hn (hp k ⟨hm,hg⟩ c)) hg,h.vl,h.sl,h.vs,h.st,h.fit⟩
def Yc (S:Nat → Prop) (g:Gh) (w:World) (ob:CB) (ms:List Md) (as os:List AV):Prop :=
 ∀ j,j < as.length → ms.getD j .bor = .io → ∃ k hm sz els,((as.getD j .any = .own k ∧ os.getD j .any = .fresh sz els) ∨ (∃ i i',as.getD j .any = .ref k i 0 ∧ os.getD j .any = .mem sz els i')) ∧
  AN k ob = some hm ∧ sz = hm.sz ∧ els.length = hm.els.length ∧ GJ S w (g.β k) (g.cap k) sz els
theorem Yc.tail {ob ob':CB} {m:Md} {a q:AV} {ms:List Md} {as os:List AV} (hI:Yc S g w ob (m :: ms) (a :: as) (q :: os)) (hl:ms.length = as.length)
  (hk:∀ k,k ∈ BX ms as → ∀ hm,AN k ob = some hm → AN k ob' = some hm):Yc S g w ob' ms as os:=by
 intro j hj hm
 obtain ⟨k,h0,sz,els,h1,h2,h3⟩:=hI (j + 1) (by simpa using hj) (by simpa using hm)
 simp only [List.getD_cons_succ] at h1
 refine ⟨k,h0,sz,els,h1,hk k (JI ms as j hl hj (by rw [hm]; decide) k ?_) h0 h2,h3⟩
 rcases h1 with ⟨e,_⟩ | ⟨_,_,e,_⟩ <;> rw [e] <;> simp [AV.key1]
theorem Ja:∀ (ms:List Md) (as os:List AV) {s:St} {pend:Nat → Prop},Jk S pend g w tmps vm ss s → ms.length = as.length → Yc S g w s.ob ms as os → DL (BX ms as) = true → (Am s ms as os).ok = true →
  Jk S (fun k => pend k ∧ k ∉ BX ms as) g w tmps vm ss (Am s ms as os) ∧ s.ok = true ∧
  (∀ k h',AN k (Am s ms as os).ob = some h' → k ∉ FZ ms as ∧ ∃ h0,AN k s.ob = some h0 ∧ h'.sz = h0.sz ∧ h'.els.length = h0.els.length)
 | [],[],os,s,pend,h,_,_,_,hok => by
  cases os with
  | nil => simp only [Am] at hok ⊢; exact ⟨by simpa [BX] using h,hok,fun k h' hg => ⟨by simp [FZ],h',hg,rfl,rfl⟩⟩
  | cons q os => simp [Am,fail] at hok
 | [],_ :: _,_,_,_,_,hl,_,_,_ => by simp at hl
 | _ :: _,[],_,_,_,_,hl,_,_,_ => by simp at hl
 | m :: ms,a :: as,[],s,pend,h,_,_,_,hok => by cases m <;> cases a <;> simp [Am,fail] at hok
 | .bor :: ms,a :: as,q :: os,s,pend,h,hl,hI,hd,hok => by
  simp only [Am] at hok ⊢
  exact Ja ms as os h (by simpa using hl) (hI.tail (by simpa using hl) fun _ _ _ c => c) (by simpa [BX] using hd) hok
 | .io :: ms,a :: as,q :: os,s,pend,h,hl,hI,hd,hok => by
  have hl':ms.length = as.length:=by simpa using hl
  obtain ⟨k,h0,sz,els,h1,h2,h3,h4,h5⟩:=hI 0 (by simp) rfl
  simp only [List.getD_cons_zero] at h1
  have hkey:a.key1 = [k]:=by rcases h1 with ⟨e,_⟩ | ⟨_,_,e,_⟩ <;> rw [e] <;> rfl
  have hd':DL (a.key1 ++ BX ms as) = true:=by simpa [BX] using hd
  rw [hkey] at hd'
  obtain ⟨hd1,hd2⟩:=GF hd'
  have hstep:Am s (.io :: ms) (a :: as) (q :: os) = Am { s with ob:=CD k ⟨sz,els⟩ s.ob } ms as os:=by
   rcases h1 with ⟨e1,e2⟩ | ⟨_,_,e1,e2⟩ <;> subst e1 <;> subst e2 <;> rfl
  rw [hstep] at hok ⊢
  have hset:=h.setIo (h2:=⟨sz,els⟩) h2 h3 h4 h5
  obtain ⟨r1,r2,r3⟩:=Ja ms as os hset hl' (hI.tail hl' fun j hj hm hg => by
   have:k ≠ j:=fun e => hd2 k (by simp) (e ▸ hj)
   rw [BJ,if_neg this]; exact hg) hd1 hok
  refine ⟨r1.pend' fun j _ hp => ⟨hp.1.1,?_⟩,r2,fun j h' hg => ?_⟩
  ·simp only [BX,hkey,List.mem_append,List.mem_singleton]
   rintro (e | e)
   ·exact hp.1.2 e
   ·exact hp.2 e
  ·obtain ⟨e0,e1,e2,e3,e4⟩:=r3 j h' hg
   refine ⟨by simpa [FZ] using e0,?_⟩
   simp only [BJ] at e2
   by_cases e:k = j
   ·subst e
    rw [if_pos rfl] at e2; cases e2
    exact ⟨h0,h2,by rw [e3,h3],by rw [e4,h4]⟩
   ·rw [if_neg e] at e2; exact ⟨e1,e2,e3,e4⟩
 | .mov :: ms,a :: as,q :: os,s,pend,h,hl,hI,hd,hok => by
  have hl':ms.length = as.length:=by simpa using hl
  have hd':DL (a.key1 ++ BX ms as) = true:=by simpa [BX] using hd
  obtain ⟨hd1,hd2⟩:=GF hd'
  cases a <;> simp only [Am,fail] at hok <;> try (cases hok; done)
  case nilsl =>
   simp only [Am] at hok ⊢
   obtain ⟨r1,r2,r3⟩:=Ja ms as os h hl' (hI.tail hl' fun _ _ _ c => c) hd1 hok
   exact ⟨by simpa [BX,AV.key1] using r1,r2,by simpa [FZ,AV.key1] using r3⟩
  case own k =>
   simp only [Am] at hok ⊢
   obtain ⟨r1,r2,r3⟩:=Ja ms as os (h.killAll k) hl' (hI.tail hl' fun j hj hm hg => by
    have:k ≠ j:=fun e => hd2 k (by simp [AV.key1]) (e ▸ hj)
    simp only [Go.Proofs.YtfaenphcgfocnaaGreatDoor.killAll]
    rw [Cg,if_neg this]; exact hg) hd1 hok
   have hgone:∀ j h',AN j (Am (Go.Proofs.YtfaenphcgfocnaaGreatDoor.killAll s k) ms as os).ob = some h' → j ≠ k:=fun j h' hg e => by
    obtain ⟨_,e1,e2,_⟩:=r3 j h' hg
    simp only [Go.Proofs.YtfaenphcgfocnaaGreatDoor.killAll] at e2
    rw [Cg,if_pos e.symm] at e2; cases e2
   refine ⟨r1.pend' fun j ⟨h',hg⟩ hp => ⟨hp.1,?_⟩,r2,fun j h' hg => ?_⟩
   ·simp only [BX,AV.key1,List.mem_append,List.mem_singleton]
    rintro (e | e)
    ·exact hgone j h' hg e
    ·exact hp.2 e
   ·obtain ⟨e0,e1,e2,e3,e4⟩:=r3 j h' hg
    have hjk:=hgone j h' hg
    refine ⟨?_,e1,?_,e3,e4⟩
    ·simp only [FZ,AV.key1,List.mem_append,List.mem_singleton]
     rintro (e | e)
     ·exact hjk e
     ·exact e0 e
    ·simp only [Go.Proofs.YtfaenphcgfocnaaGreatDoor.killAll] at e2
     rw [Cg,if_neg (Ne.symm hjk)] at e2; exact e2
end
open Go Go.RowKit
set_option linter.unusedSimpArgs false
set_option linter.unusedVariables false
def Ft (r:AV) (i:Nat):Bool :=
 match r with
 | .tup as => decide (1 ≤ i) && (decide (i ≤ as.length) && Gb (as.getD (i - 1) .any))
 | a => decide (i = 0) && Gb a
theorem Zo {r:AV} {i:Nat}:Ft r i = true ↔ Gs r i:=by
 cases r <;> simp only [Ft,Gs,Bool.and_eq_true,decide_eq_true_eq]
 case tup as =>
  constructor
  ·rintro ⟨h1,h2,h3⟩; exact ⟨i - 1,by omega,by omega,h3⟩
  ·rintro ⟨j,rfl,hj,hf⟩; exact ⟨by omega,by omega,by simpa using hf⟩
def GZ (r:AV) (i:Nat):AV :=
 match r with
 | .tup as => as.getD (i - 1) .any
 | a => a
theorem YY (k d:Nat):∀ (cs:List AV) (j:Nat) (ob:CB),j + cs.length ≤ 32 →
  AN k (Dy ob (Iu d j cs)) = if k / 32 = d ∧ j ≤ k % 32 ∧ k % 32 < j + cs.length ∧ Gb (cs.getD (k % 32 - j) .any) = true then Fs (cs.getD (k % 32 - j) .any) else AN k ob
 | [],j,ob,_ => by simp only [Iu,Dy,List.length_nil]; rw [if_neg (by omega)]
 | a :: r,j,ob,hl => by
  simp only [List.length_cons] at hl ⊢
  have ih:=fun ob => YY k d r (j + 1) ob (by omega)
  have skip:Gb a = false → AN k (Dy ob (Iu d (j + 1) r)) = if k / 32 = d ∧ j ≤ k % 32 ∧ k % 32 < j + (r.length + 1) ∧ Gb ((a :: r).getD (k % 32 - j) .any) = true then Fs ((a :: r).getD (k % 32 - j) .any) else AN k ob:=by
   intro hf
   rw [ih]
   by_cases e:k % 32 = j
   ·rw [if_neg (by omega),if_neg]
    rintro ⟨_,_,_,h⟩
    rw [e,Nat.sub_self,List.getD_cons_zero,hf] at h; cases h
   ·by_cases e2:j ≤ k % 32
    ·have e3:k % 32 - j = (k % 32 - (j + 1)) + 1:=by omega
     rw [e3,List.getD_cons_succ]
     by_cases e4:k / 32 = d ∧ j + 1 ≤ k % 32 ∧ k % 32 < j + 1 + r.length ∧ Gb (r.getD (k % 32 - (j + 1)) .any) = true
     ·rw [if_pos e4,if_pos ⟨e4.1,e2,by omega,e4.2.2.2⟩]
     ·rw [if_neg e4,if_neg]
      rintro ⟨h1,h2,h3,h4⟩
      exact e4 ⟨h1,by omega,by omega,h4⟩
    ·rw [if_neg (by omega),if_neg (by omega)]
  have put:∀ (sz:Nat) (els:List AV) (x:AV),Gb x = true → Fs x = some ⟨sz,els⟩ → Iu d j (x :: r) = (Ba d + j,⟨sz,els⟩) :: Iu d (j + 1) r → AN k (Dy ob (Iu d j (x :: r))) = if k / 32 = d ∧ j ≤ k % 32 ∧ k % 32 < j + (r.length + 1) ∧ Gb ((x :: r).getD (k % 32 - j) .any) = true then Fs ((x :: r).getD (k % 32 - j) .any) else AN k ob:=by
   intro sz els x hx1 hx2 hx3
   rw [hx3]
   simp only [Dy]
   rw [ih,BJ]
   by_cases e:k % 32 = j
   ·rw [if_neg (by omega)]
    by_cases e1:k / 32 = d
    ·rw [if_pos (by unfold Ba; omega),if_pos ⟨e1,by omega,by omega,by rw [e,Nat.sub_self]; exact hx1⟩,e,Nat.sub_self]; exact hx2.symm
    ·rw [if_neg (by unfold Ba; omega),if_neg (by omega)]
   ·by_cases e2:j ≤ k % 32
    ·have e3:k % 32 - j = (k % 32 - (j + 1)) + 1:=by omega
     rw [e3,List.getD_cons_succ,if_neg (c:=Ba d + j = k) (by unfold Ba; omega)]
     by_cases e4:k / 32 = d ∧ j + 1 ≤ k % 32 ∧ k % 32 < j + 1 + r.length ∧ Gb (r.getD (k % 32 - (j + 1)) .any) = true
     ·rw [if_pos e4,if_pos ⟨e4.1,e2,by omega,e4.2.2.2⟩]
     ·rw [if_neg e4,if_neg]
      rintro ⟨h1,h2,h3,h4⟩
      exact e4 ⟨h1,by omega,by omega,h4⟩
    ·rw [if_neg (by omega),if_neg (c:=Ba d + j = k) (by unfold Ba; omega),if_neg (by omega)]
  cases a
  case fresh sz els => exact put sz els _ rfl rfl rfl
  case mem sz els ix => exact put sz els _ rfl rfl rfl
  all_goals exact skip rfl
theorem Nf {d:Nat} {r:AV} (hok:(adopt d r).ok = true) (k:Nat) (ob:CB):AN k (Dy ob (adopt d r).hs) = if k / 32 = d ∧ Ft r (k % 32) = true then Fs (GZ r (k % 32)) else AN k ob:=by
 have none:(adopt d r).hs = [] → (∀ i,Ft r i = false) → AN k (Dy ob (adopt d r).hs) = if k / 32 = d ∧ Ft r (k % 32) = true then Fs (GZ r (k % 32)) else AN k ob:=by
  intro h0 h1
  rw [h0,h1]; simp [Dy]
 cases r
 case tup cs =>
  simp only [adopt,decide_eq_true_eq] at hok ⊢
  rw [YY k d cs 1 ob (by omega)]
  simp only [Ft,GZ,Bool.and_eq_true,decide_eq_true_eq]
  by_cases e:k / 32 = d ∧ 1 ≤ k % 32 ∧ k % 32 < 1 + cs.length ∧ Gb (cs.getD (k % 32 - 1) .any) = true
  ·rw [if_pos e,if_pos ⟨e.1,e.2.1,by omega,e.2.2.2⟩]
  ·rw [if_neg e,if_neg]
   rintro ⟨h1,h2,h3,h4⟩
   exact e ⟨h1,h2,by omega,h4⟩
 case fresh sz els =>
  simp only [adopt,Dy,BJ,Ft,GZ,Gb,Bool.and_true,decide_eq_true_eq,Fs]
  by_cases e:k / 32 = d ∧ k % 32 = 0
  ·rw [if_pos e,if_pos (by unfold Ba; omega)]
  ·rw [if_neg e,if_neg (by unfold Ba; omega)]
 case fn f a b => exact none (by simp [adopt,Dz]) (fun i => by simp [Ft,Gb])
 case own => simp [adopt,bad] at hok
 case mem sz els ix =>
  simp only [adopt,Dy,BJ,Ft,GZ,Gb,Bool.and_true,decide_eq_true_eq,Fs]
  by_cases e:k / 32 = d ∧ k % 32 = 0
  ·rw [if_pos e,if_pos (by unfold Ba; omega)]
  ·rw [if_neg e,if_neg (by unfold Ba; omega)]
 case ref => simp [adopt,bad] at hok
 case opt => simp [adopt,bad] at hok
 all_goals exact none rfl (fun i => by simp [Ft,Gb])
theorem YW (d:Nat):∀ (cs:List AV) (j i:Nat),i < cs.length → (KT d j cs).getD i .any = match cs.getD i .any with | .fresh _ _ => .own (Ba d + (j + i)) | .mem _ _ _ => .ref (Ba d + (j + i)) 0 0 | x => x
 | [],_,_,h => by simp at h
 | a :: r,j,0,_ => by cases a <;> rfl
 | a :: r,j,i + 1,h => by
  have ih:=YW d r (j + 1) i (by simpa using h)
  rw [List.getD_cons_succ,show j + (i + 1) = j + 1 + i by omega,← ih]
  cases a <;> rfl
theorem PE (d:Nat):∀ (cs:List AV) (j:Nat),(KT d j cs).length = cs.length
 | [],_ => rfl
 | a :: r,j => by
  have ih:=PE d r (j + 1)
  cases a <;> simp [KT,ih]
theorem VR.toSR1 {S:Nat → Prop} {w:World} {g:Gh} {ob:CB} {v:Value} {a:AV} (h:VR S w v a):LI S w g ob v a:=by
 cases a <;> first | exact h | (cases h)
theorem AES {S:Nat → Prop} {pend:Nat → Prop} {g:Gh} {w:World} {tmps:Array Value} {vm ss ss':List Nat} {s:St} (h:Jk S pend g w tmps vm ss s) (hnd:MQ vm) {dst:Option Nat} {D:Gk} (hd:Dd vm ss dst D = some ss')
  (hfit:∀ d,dst = some d → d < tmps.size) {v:Value} {a:AV} (c:Bool) (hv:SR S w g s.ob v a):Jk S pend g w (Fz tmps dst v) vm ss' (BE s c a D):=by
 cases dst with
 | none =>
  cases D <;> simp [Dd] at hd
  subst hd
  exact ⟨h.home,h.vl,h.sl,h.vs,h.st,h.fit⟩
 | some d =>
  have hdt:=hfit d rfl
  have hv':=hv
  cases D with
  | no => simp [Dd] at hd
  | push =>
   simp only [Dd] at hd
   split at hd
   ·cases hd
   rename_i hn
   simp only [Option.some.injEq] at hd
   subst hd
   have hn1:d ∉ vm:=fun c => hn (.inl c)
   have hn2:d ∉ ss:=fun c => hn (.inr c)
   refine ⟨h.home,h.vl,by simpa [BE] using h.sl,fun i hi => ?_,fun i hi => ?_,fun t ht => ?_⟩
   ·have hne:d ≠ vm.getD i 0:=fun e => hn1 (by rw [e,List.getD_eq_getElem?_getD,List.getElem?_eq_getElem hi]; exact List.getElem_mem hi)
    simp only [Fz,DJ hne]
    exact h.vs i hi
   ·cases i with
    | zero => simp only [Fz,BE,List.getD_cons_zero,Gr hdt]; exact hv'
    | succ i =>
     have hi':i < ss.length:=by simpa using hi
     have hne:d ≠ ss.getD i 0:=fun e => hn2 (by rw [e,List.getD_eq_getElem?_getD,List.getElem?_eq_getElem hi']; exact List.getElem_mem hi')
     simp only [Fz,BE,List.getD_cons_succ,DJ hne]
     exact h.st i hi'
   ·simp only [Fz,Array.size_setIfInBounds]
    rcases ht with ht | ht
    ·exact h.fit t (.inl ht)
    ·rcases List.mem_cons.1 ht with e | ht
     ·exact e ▸ hdt
     ·exact h.fit t (.inr ht)
  | slot n =>
   simp only [Dd] at hd
   split at hd
   ·rename_i hn
    simp only [Option.some.injEq] at hd
    subst hd
    obtain ⟨hn1,hn2,hsn⟩:=hn
    have hnl:n < ss.length:=by
     rcases Nat.lt_or_ge n ss.length with h' | h'
     ·exact h'
     ·rw [List.getElem?_eq_none h'] at hn1; cases hn1
    have hvn:ss.getD n 0 = d:=by rw [List.getD_eq_getElem?_getD,hn1]; rfl
    refine ⟨h.home,h.vl,by simpa [BE] using h.sl,fun i hi => ?_,fun i hi => ?_,fun t ht => ?_⟩
    ·have hne:d ≠ vm.getD i 0:=fun e => hn2 (by rw [e,List.getD_eq_getElem?_getD,List.getElem?_eq_getElem hi]; exact List.getElem_mem hi)
     simp only [Fz,DJ hne]
     exact h.vs i hi
    ·by_cases hin:n = i
     ·subst hin
      have:(s.st.set n a).getD n .any = a:=by
       rw [List.getD_eq_getElem?_getD,List.getElem?_set_self (by rw [h.sl]; exact hnl)]; rfl
      simp only [Fz,BE,hvn,Gr hdt,this]
      exact hv'
     ·have hne:d ≠ ss.getD i 0:=by
       intro e
       have h1:ss[n]? = ss[i]?:=by rw [hn1,e,List.getD_eq_getElem?_getD,List.getElem?_eq_getElem hi]; rfl
       exact hin ((List.getElem?_inj hnl hsn).1 h1)
      have:(s.st.set n a).getD i .any = s.st.getD i .any:=by
       rw [List.getD_eq_getElem?_getD,List.getElem?_set_ne hin,List.getD_eq_getElem?_getD]
      simp only [Fz,BE,DJ hne,this]
      exact h.st i hi
    ·simp only [Fz,Array.size_setIfInBounds]; exact h.fit t ht
   ·cases hd
  | var n =>
   simp only [Dd] at hd
   split at hd
   ·rename_i hn
    simp only [Option.some.injEq] at hd
    subst hd
    obtain ⟨hn1,hn2,hn3⟩:=hn
    have hnl:n < vm.length:=by
     rcases Nat.lt_or_ge n vm.length with h' | h'
     ·exact h'
     ·rw [List.getElem?_eq_none h'] at hn1; cases hn1
    have hvn:vm.getD n 0 = d:=by rw [List.getD_eq_getElem?_getD,hn1]; rfl
    refine ⟨h.home,by simpa [BE] using h.vl,h.sl,fun i hi => ?_,fun i hi => ?_,fun t ht => ?_⟩
    ·by_cases hin:n = i
     ·subst hin
      have:(s.vs.set n a).getD n .any = a:=by
       rw [List.getD_eq_getElem?_getD,List.getElem?_set_self (by rw [h.vl]; exact hnl)]; rfl
      simp only [Fz,BE,hvn,Gr hdt,this]
      exact hv'
     ·have hne:d ≠ vm.getD i 0:=TK hn1 hn3 hi hin
      have:(s.vs.set n a).getD i .any = s.vs.getD i .any:=by
       rw [List.getD_eq_getElem?_getD,List.getElem?_set_ne hin,List.getD_eq_getElem?_getD]
      simp only [Fz,BE,DJ hne,this]
      exact h.vs i hi
    ·have hne:d ≠ ss.getD i 0:=fun e => hn2 (by rw [e,List.getD_eq_getElem?_getD,List.getElem?_eq_getElem hi]; exact List.getElem_mem hi)
     simp only [Fz,DJ hne]
     exact h.st i hi
    ·simp only [Fz,Array.size_setIfInBounds]; exact h.fit t ht
   ·cases hd
section
variable {S:Nat → Prop} {pend:Nat → Prop} {F Iow:Nat → Prop} {w0:World} {g0:Gh} {o0:CB} {g:Gh} {w w':World} {tmps:Array Value} {ds:List Deferred} {vm ss ss':List Nat} {s:St} {P:Program} {o:Oper} {key:Nat}
def EH (g gb:Gh) (κ:Nat → Nat) (key:Nat) (r:AV):Gh :=
 ⟨fun k => if k / 32 = key ∧ Ft r (k % 32) = true then gb.β (κ (k % 32)) else g.β k,fun k => if k / 32 = key ∧ Ft r (k % 32) = true then gb.cap (κ (k % 32)) else g.cap k⟩
theorem Za {d j:Nat} (hj:j < 32):(Ba d + j) / 32 = d ∧ (Ba d + j) % 32 = j:=by unfold Ba; omega
theorem RV.adopt {S':Nat → Prop} {gb:Gh} {obb ob:CB} {κ:Nat → Nat} {v:Value} {r:AV} (hv:RV S' w gb obb κ v r) (hS:∀ b,S b → S' b) (hok:(adopt key r).ok = true) :
  SR S w (EH g gb κ key r) (Dy ob (Go.Proofs.YtfaenphcgfocnaaGreatDoor.adopt key r).hs) v (Go.Proofs.YtfaenphcgfocnaaGreatDoor.adopt key r).v:=by
 have sub:∀ {u a},VR S' w u a → VR S w u a:=fun h => h.mono (At.refl _ _) fun b _ c => hS b c
 have own1:∀ {i:Nat} {u:Value} {sz:Nat} {els:List AV},i < 32 → Ft r i = true → GZ r i = .fresh sz els → pS S' w gb obb (κ i) u (.fresh sz els) →
   LI S w (EH g gb κ key r) (Dy ob (Go.Proofs.YtfaenphcgfocnaaGreatDoor.adopt key r).hs) u (.own (Ba key + i)):=by
  intro i u sz els hi hf hp hu
  obtain ⟨h1,h2⟩:=Za (d:=key) hi
  refine ⟨⟨sz,els⟩,by rw [Nf hok,h1,h2,if_pos ⟨rfl,hf⟩,hp]; rfl,?_⟩
  simp only [EH,h1,h2,hf,and_self,if_true]
  exact hu.2
 have mem1:∀ {i:Nat} {u:Value} {sz:Nat} {els:List AV} {ix:Nat},i < 32 → Ft r i = true → GZ r i = .mem sz els ix → pS S' w gb obb (κ i) u (.mem sz els ix) →
   LI S w (EH g gb κ key r) (Dy ob (Go.Proofs.YtfaenphcgfocnaaGreatDoor.adopt key r).hs) u (.ref (Ba key + i) 0 0):=by
  intro i u sz els ix hi hf hp hu
  obtain ⟨h1,h2⟩:=Za (d:=key) hi
  refine ⟨⟨sz,els⟩,by rw [Nf hok,h1,h2,if_pos ⟨rfl,hf⟩,hp]; rfl,?_⟩
  simp only [EH,h1,h2,hf,and_self,if_true]
  obtain ⟨_,hl,e⟩:=hu
  exact ⟨by simp only [hl]; omega,by rw [e,Nat.zero_mul]⟩
 cases r
 case fresh sz els => exact own1 (i:=0) (by omega) (by simp [Ft,Gb]) rfl hv
 case mem sz els ix => exact mem1 (i:=0) (by omega) (by simp [Ft,Gb]) rfl hv
 case tup cs =>
  obtain ⟨vs,rfl,hn,hall⟩:=hv
  have hlen:cs.length < 31:=by simpa [Go.Proofs.YtfaenphcgfocnaaGreatDoor.adopt] using hok
  refine ⟨vs,rfl,by rw [PE,hn],fun j hj => ?_⟩
  rw [PE] at hj
  rw [YW key cs 1 j hj]
  have hj1:=hall j hj
  have hfp:Gb (cs.getD j .any) = true → Ft (.tup cs) (j + 1) = true:=fun h => by
   simp only [Ft,Nat.add_sub_cancel,h,Bool.and_true,Bool.and_eq_true,decide_eq_true_eq]; omega
  have hpart:GZ (.tup cs) (j + 1) = cs.getD j .any:=by simp [GZ]
  split
  ·rename_i sz els he
   rw [he] at hj1 hpart hfp
   rw [Nat.add_comm 1 j]
   exact own1 (i:=j + 1) (by omega) (hfp rfl) hpart hj1
  ·rename_i sz els ix he
   rw [he] at hj1 hpart hfp
   rw [Nat.add_comm 1 j]
   exact mem1 (i:=j + 1) (by omega) (hfp rfl) hpart hj1
  ·rename_i hne hne2
   have:VR S' w (vs.getD j undef) (cs.getD j .any):=by
    revert hj1 hne hne2
    generalize cs.getD j .any = x
    intro hj1 hne hne2
    cases x <;> first | exact hj1 | exact absurd rfl (hne _ _) | exact absurd rfl (hne2 _ _ _)
   exact (sub this).toSR1
 case fn f a b => exact (sub hv).toSR
 case own => simp [Go.Proofs.YtfaenphcgfocnaaGreatDoor.adopt,bad] at hok
 case ref => simp [Go.Proofs.YtfaenphcgfocnaaGreatDoor.adopt,bad] at hok
 case opt => simp [Go.Proofs.YtfaenphcgfocnaaGreatDoor.adopt,bad] at hok
 all_goals exact (sub hv).toSR
theorem fF {d k:Nat} (hk:k / 32 = d):¬ Hb (clear s d).ob k:=by
 intro ⟨hm,hg⟩
 unfold Go.Proofs.YtfaenphcgfocnaaGreatDoor.clear at hg
 rw [AO] at hg
 split at hg
 ·simp [Ez,hk] at hg
 ·rename_i hn
  exact MF (by simpa using hn) hg hk
theorem Jk.adopt (h:Jk S (fun _ => False) g w tmps vm ss s) (hnd:MQ vm) {dst:Option Nat} {D:Gk} (hd:Dd vm ss dst D = some ss') (hfit:∀ d,dst = some d → d < tmps.size) {c:Bool}
  {S':Nat → Prop} {gb:Gh} {obb:CB} {κ:Nat → Nat} {v:Value} {r:AV} (hv:RV S' w gb obb κ v r) (hS:∀ b,S b → S' b)
  (hH:∀ i,Gs r i → ∀ sz els,Fs (GZ r i) = some ⟨sz,els⟩ → GJ S w (gb.β (κ i)) (gb.cap (κ i)) sz els) (hok:(Ca s key D (Ej c (adopt key r))).ok = true) :
  Jk S (fun _ => False) (EH g gb κ key r) w (Fz tmps dst v) vm ss' (Ca s key D (Ej c (Go.Proofs.YtfaenphcgfocnaaGreatDoor.adopt key r))) ∧ s.ok = true ∧ c = true ∧
  (∀ k h',AN k (Ca s key D (Ej c (Go.Proofs.YtfaenphcgfocnaaGreatDoor.adopt key r))).ob = some h' → (k / 32 = key ∧ Ft r (k % 32) = true) ∨ (¬ (k / 32 = key ∧ Ft r (k % 32) = true) ∧ AN k s.ob = some h')):=by
 have hoks:s.ok = true ∧ c = true ∧ (Go.Proofs.YtfaenphcgfocnaaGreatDoor.adopt key r).ok = true:=by
  revert hok
  unfold Ca Ej
  cases (Go.Proofs.YtfaenphcgfocnaaGreatDoor.adopt key r).hs with
  | nil => simp only [Pf]; intro hok; cases D <;> simpa [BE] using hok
  | cons p q =>
   simp only [Pf,OK]
   have:(Go.Proofs.YtfaenphcgfocnaaGreatDoor.clear s key).ok = s.ok:=by unfold Go.Proofs.YtfaenphcgfocnaaGreatDoor.clear; rw [AO]; split <;> rfl
   intro hok; cases D <;> simpa [BE,this] using hok
 obtain ⟨h1,h2,h3⟩:=hoks
 have mid:∃ s1:St,Ca s key D (Ej c (Go.Proofs.YtfaenphcgfocnaaGreatDoor.adopt key r)) = BE { s1 with ob:=Dy s1.ob (Go.Proofs.YtfaenphcgfocnaaGreatDoor.adopt key r).hs } (c && (Go.Proofs.YtfaenphcgfocnaaGreatDoor.adopt key r).ok) (Go.Proofs.YtfaenphcgfocnaaGreatDoor.adopt key r).v D ∧ Jk S (fun _ => False) g w tmps vm ss s1 ∧
   (∀ k h',AN k s1.ob = some h' → AN k s.ob = some h') ∧ (∀ k,k / 32 = key → Ft r (k % 32) = true → ¬ Hb s1.ob k):=by
  unfold Ca Ej
  cases hhs:(Go.Proofs.YtfaenphcgfocnaaGreatDoor.adopt key r).hs with
  | nil =>
   refine ⟨s,rfl,h,fun k h' hg => hg,fun k hk hf => ?_⟩
   exfalso
   have:=Nf h3 k []
   rw [hhs,if_pos ⟨hk,hf⟩] at this
   simp only [Dy,AN] at this
   have hfr:Gb (GZ r (k % 32)) = true:=by
    revert hf
    cases r <;> simp [Ft,GZ] <;> (try (intro _ h; exact h)) <;> (try (intro _ _ h; exact h))
   revert this hfr
   generalize GZ r (k % 32) = x
   intro this hfr
   cases x <;> simp [Gb,Fs] at hfr this
  | cons p q => exact ⟨Go.Proofs.YtfaenphcgfocnaaGreatDoor.clear s key,rfl,h.clear key,fun k h' hg => Zy hg,fun k hk _ => fF hk⟩
 obtain ⟨s1,e1,hs1,hsub,hnone⟩:=mid
 have hget:=Nf (d:=key) h3
 have hkey:∀ k,OJ g (EH g gb κ key r) s1.ob (Dy s1.ob (Go.Proofs.YtfaenphcgfocnaaGreatDoor.adopt key r).hs) k:=by
  intro k h' hg
  have hn:¬ (k / 32 = key ∧ Ft r (k % 32) = true):=fun e => hnone k e.1 e.2 ⟨h',hg⟩
  exact ⟨h',by rw [hget,if_neg hn]; exact hg,rfl,rfl,by simp [EH,hn],by simp [EH,hn]⟩
 have hs2:Jk S (fun _ => False) (EH g gb κ key r) w tmps vm ss { s1 with ob:=Dy s1.ob (Go.Proofs.YtfaenphcgfocnaaGreatDoor.adopt key r).hs }:=by
  refine ⟨fun k h' _ hg => ?_,hs1.vl,hs1.sl,fun i hi => (hs1.vs i hi).mono (At.refl _ _) (fun _ _ c => c) fun k _ => hkey k,fun i hi => (hs1.st i hi).mono (At.refl _ _) (fun _ _ c => c) fun k _ => hkey k,hs1.fit⟩
  simp only [hget] at hg
  by_cases e:k / 32 = key ∧ Ft r (k % 32) = true
  ·rw [if_pos e] at hg
   simp only [EH,if_pos e]
   exact hH _ (Zo.1 e.2) h'.sz h'.els hg
  ·rw [if_neg e] at hg
   simp only [EH,if_neg e]
   exact hs1.home k h' (fun c => c) hg
 have hval:SR S w (EH g gb κ key r) (Dy s1.ob (Go.Proofs.YtfaenphcgfocnaaGreatDoor.adopt key r).hs) v (Go.Proofs.YtfaenphcgfocnaaGreatDoor.adopt key r).v:=hv.adopt hS h3
 refine ⟨?_,h1,h2,fun k h' hg => ?_⟩
 ·rw [e1]
  have:=AES (S:=S) hs2 hnd hd hfit (c && (Go.Proofs.YtfaenphcgfocnaaGreatDoor.adopt key r).ok) hval
  exact this
 ·rw [e1] at hg
  have hob:(BE { s1 with ob:=Dy s1.ob (Go.Proofs.YtfaenphcgfocnaaGreatDoor.adopt key r).hs } (c && (Go.Proofs.YtfaenphcgfocnaaGreatDoor.adopt key r).ok) (Go.Proofs.YtfaenphcgfocnaaGreatDoor.adopt key r).v D).ob = Dy s1.ob (Go.Proofs.YtfaenphcgfocnaaGreatDoor.adopt key r).hs:=by cases D <;> rfl
  rw [hob,hget] at hg
  by_cases e:k / 32 = key ∧ Ft r (k % 32) = true
  ·exact .inl e
  ·rw [if_neg e] at hg; exact .inr ⟨e,hsub k h' hg⟩
end
end Go.Proofs.YtfaenphcgfocnaaGreatDoor
