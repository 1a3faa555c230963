/- Operations that write nothing that was there: what the code gives is what the interpreter says. No condition. -/
import Derived.Test.YtfaenphcgfocnaaGreatDoorEngC
namespace Go.Proofs.YtfaenphcgfocnaaGreatDoor
open Go Go.RowKit
set_option linter.unusedSimpArgs false
set_option linter.unusedVariables false
theorem AO {α:Type} (b:Bool) (x y:α):(bif b then x else y) = if b = true then x else y:=by cases b <;> rfl
theorem BJ (k k':Nat) (h:Hm):∀ ob:CB,AN k' (CD k h ob) = if k = k' then some h else AN k' ob
 | [] => by simp [CD,AN,AO]
 | p :: r => by
  have ih:=BJ k k' h r
  by_cases hp:p.1 = k
  ·by_cases hk:k = k'
   ·simp [CD,AN,AO,hp,hk]
   ·simp [CD,AN,AO,hp,hk]
  ·by_cases hl:k < p.1
   ·by_cases hk:k = k'
    ·subst hk; simp [CD,AN,AO,hp,hl]
    ·simp [CD,AN,AO,hp,hl,hk]
   ·by_cases hk:k = k'
    ·subst hk; simp [CD,AN,AO,hp,hl,ih]
    ·simp [CD,AN,AO,hp,hl,ih,hk]
theorem Cg (k k':Nat):∀ ob:CB,AN k' (Ik k ob) = if k = k' then none else AN k' ob
 | [] => by simp [Ik,AN]
 | p :: r => by
  have ih:=Cg k k' r
  by_cases hp:p.1 = k
  ·by_cases hk:k = k'
   ·subst hk; simp [Ik,AO,hp] at ih ⊢; exact ih
   ·simp [Ik,AN,AO,hp,hk,ih]
  ·by_cases hk:k = k'
   ·subst hk; simp [Ik,AN,AO,hp,ih]
   ·simp [Ik,AN,AO,hp,ih,hk]
theorem Ez (d k:Nat):∀ ob:CB,AN k (DW d ob) = if k / 32 = d then none else AN k ob
 | [] => by simp [DW,AN]
 | p :: r => by
  have ih:=Ez d k r
  by_cases hp:p.1 / 32 = d
  ·by_cases hk:k / 32 = d
   ·simp [DW,AO,hp,hk,ih]
   ·have hne:p.1 ≠ k:=fun e => hk (e ▸ hp)
    simp [DW,AN,AO,hp,hk,ih,hne]
  ·by_cases hk:k / 32 = d
   ·have hne:p.1 ≠ k:=fun e => hp (e ▸ hk)
    simp [DW,AN,AO,hp,hk,ih,hne]
   ·simp [DW,AN,AO,hp,hk,ih]
theorem MF {d k:Nat} {h:Hm}:∀ {ob:CB},Mv d ob = false → AN k ob = some h → k / 32 ≠ d
 | [],_,hg => by simp [AN] at hg
 | p :: r,hn,hg => by
  simp only [Mv,Bool.or_eq_false_iff,beq_eq_false_iff_ne] at hn
  by_cases hp:p.1 = k
  ·exact hp ▸ hn.1
  ·simp only [AN,AO,beq_iff_eq,hp,if_false] at hg
   exact MF hn.2 hg
def OJ (g g':Gh) (ob ob':CB) (k:Nat):Prop :=
 ∀ h,AN k ob = some h → ∃ h',AN k ob' = some h' ∧ h'.els.length = h.els.length ∧ h'.sz = h.sz ∧ g'.β k = g.β k ∧ g'.cap k = g.cap k
theorem LI.mono {S S':Nat → Prop} {w w':World} {g g':Gh} {ob ob':CB} (hsame:At S w w') (hS:∀ b,b < w.heap.size → S' b → S b) {v:Value} {a:AV}
  (hk:∀ k,k ∈ a.key1 → OJ g g' ob ob' k) (h:LI S w g ob v a):LI S' w' g' ob' v a:=by
 cases a
 case own k =>
  obtain ⟨hm,ho,hv⟩:=h
  obtain ⟨hm',ho',e1,_,e3,e4⟩:=hk k (by simp [AV.key1]) hm ho
  exact ⟨hm',ho',by rw [e1,e3,e4]; exact hv⟩
 case ref k i off =>
  obtain ⟨hm,ho,hi,rfl⟩:=h
  obtain ⟨hm',ho',e1,e2,e3,_⟩:=hk k (by simp [AV.key1]) hm ho
  exact ⟨hm',ho',by rw [e1]; exact hi,by rw [e2,e3]⟩
 all_goals exact VR.mono hsame hS h
theorem CK {as:List AV} {j:Nat} (hj:j < as.length) {k:Nat} (hk:k ∈ (as.getD j .any).key1):k ∈ as.flatMap AV.key1:=by
 refine List.mem_flatMap.2 ⟨as.getD j .any,?_,hk⟩
 rw [List.getD_eq_getElem?_getD,List.getElem?_eq_getElem hj]
 exact List.getElem_mem hj
theorem SR.mono {S S':Nat → Prop} {w w':World} {g g':Gh} {ob ob':CB} (hsame:At S w w') (hS:∀ b,b < w.heap.size → S' b → S b) {v:Value} {a:AV}
  (hk:∀ k,k ∈ a.keys → OJ g g' ob ob' k) (h:SR S w g ob v a):SR S' w' g' ob' v a:=by
 cases a
 case fn f a1 a2 =>
  obtain ⟨v1,v2,rfl,n1,n2,h1,h2⟩:=h
  refine ⟨v1,v2,rfl,n1,n2,fun j hj => (h1 j hj).mono hsame hS fun k hkk => hk k ?_,fun j hj => (h2 j hj).mono hsame hS fun k hkk => hk k ?_⟩
  ·simp only [AV.keys,List.flatMap_append,List.mem_append]; exact .inl (CK hj hkk)
  ·simp only [AV.keys,List.flatMap_append,List.mem_append]; exact .inr (CK hj hkk)
 case tup as =>
  obtain ⟨vs,rfl,n,h1⟩:=h
  exact ⟨vs,rfl,n,fun j hj => (h1 j hj).mono hsame hS fun k hkk => hk k (CK hj hkk)⟩
 case opt b a =>
  simp only [SR] at h ⊢
  split at h
  ·rename_i hb; rw [if_pos hb]; exact h.mono hsame hS hk
  ·rename_i hb; rw [if_neg hb]; exact h
 all_goals
  simp only [SR] at h ⊢
  refine LI.mono hsame hS (fun k hkk => hk k ?_) h
  first | exact hkk | (simp [AV.key1] at hkk)
theorem SR.any {S:Nat → Prop} {w:World} {g:Gh} {ob:CB} {v:Value}:SR S w g ob v .any:=VR.any
theorem LI.has {S:Nat → Prop} {w:World} {g:Gh} {ob:CB} {v:Value} {a:AV} (h:LI S w g ob v a) {k:Nat} (hk:k ∈ a.key1):Hb ob k:=by
 cases a <;> simp [AV.key1] at hk
 case own j => subst hk; obtain ⟨hm,ho,_⟩:=h; exact ⟨hm,ho⟩
 case ref j i off => subst hk; obtain ⟨hm,ho,_⟩:=h; exact ⟨hm,ho⟩
structure FR (F:Nat → Prop) (g:Gh) (w:World) (tmps:Array Value) (vm ss:List Nat) (s:St):Prop where
 home:∀ k h,AN k s.ob = some h → GJ (AW F g s.ob) w (g.β k) (g.cap k) h.sz h.els
 inj:∀ k k',LG g s.ob k → LG g s.ob k' → g.β k = g.β k' → k = k'
 nF:∀ k,LG g s.ob k → ¬ F (g.β k)
 fb:∀ b,F b → b < w.heap.size
 vl:s.vs.length = vm.length
 sl:s.st.length = ss.length
 vs:∀ i,i < vm.length → SR (AW F g s.ob) w g s.ob (tmps.getD (vm.getD i 0) undef) (s.vs.getD i .any)
 st:∀ i,i < ss.length → SR (AW F g s.ob) w g s.ob (tmps.getD (ss.getD i 0) undef) (s.st.getD i .any)
 fit:∀ t,t ∈ vm ∨ t ∈ ss → t < tmps.size
 tab:GT (AW F g s.ob) w
theorem Be (φ:AV → AV) (hφ:φ .any = .any) (l:List AV) (i:Nat):(l.map φ).getD i .any = φ (l.getD i .any):=by
 rw [List.getD_eq_getElem?_getD,List.getD_eq_getElem?_getD,List.getElem?_map]
 cases l[i]? <;> simp [hφ]
theorem FR.slots {F:Nat → Prop} {g g':Gh} {w w':World} {tmps:Array Value} {vm ss:List Nat} {s:St} (h:FR F g w tmps vm ss s) {ob':CB} (φ:AV → AV) (hany:φ .any = .any)
  (hsame:At (AW F g s.ob) w w') (hS:∀ b,b < w.heap.size → AW F g' ob' b → AW F g s.ob b)
  (hφ:∀ a v,SR (AW F g s.ob) w g s.ob v a → φ a = .any ∨ (φ a = a ∧ ∀ k,k ∈ a.keys → OJ g g' s.ob ob' k))
  (hhome:∀ k h,AN k ob' = some h → GJ (AW F g' ob') w' (g'.β k) (g'.cap k) h.sz h.els)
  (hinj:∀ k k',LG g' ob' k → LG g' ob' k' → g'.β k = g'.β k' → k = k') (hnF:∀ k,LG g' ob' k → ¬ F (g'.β k)) (ok:Bool) :
  FR F g' w' tmps vm ss { vs:=s.vs.map φ,st:=s.st.map φ,ob:=ob',ok:=ok } where
 home:=hhome
 inj:=hinj
 nF:=hnF
 fb b hb:=Nat.lt_of_lt_of_le (h.fb b hb) hsame.size
 vl:=by simpa using h.vl
 sl:=by simpa using h.sl
 vs i hi:=by
  have h0:=h.vs i hi
  simp only [Be φ hany]
  rcases hφ _ _ h0 with e | ⟨e,hk⟩
  ·rw [e]; exact SR.any
  ·rw [e]; exact h0.mono hsame hS hk
 st i hi:=by
  have h0:=h.st i hi
  simp only [Be φ hany]
  rcases hφ _ _ h0 with e | ⟨e,hk⟩
  ·rw [e]; exact SR.any
  ·rw [e]; exact h0.mono hsame hS hk
 fit:=h.fit
 tab:=h.tab.mono hsame hS
theorem Fq {F:Nat → Prop} {g:Gh} {ob ob':CB} (hs:∀ k,Hb ob' k → Hb ob k) {b:Nat} (h:AW F g ob' b):AW F g ob b:=by
 rcases h with h | ⟨k,hk,e⟩
 ·exact .inl h
 ·exact .inr ⟨k,⟨hs k hk.1,hk.2⟩,e⟩
theorem FR.setOk {F:Nat → Prop} {g:Gh} {w:World} {tmps:Array Value} {vm ss:List Nat} {s:St} (h:FR F g w tmps vm ss s) (ok:Bool):FR F g w tmps vm ss { s with ok:=ok } :=
 ⟨h.home,h.inj,h.nF,h.fb,h.vl,h.sl,h.vs,h.st,h.fit,h.tab⟩
theorem FR.grow {F:Nat → Prop} {g:Gh} {w w':World} {tmps:Array Value} {vm ss:List Nat} {s:St} (h:FR F g w tmps vm ss s) (hw:At (fun _ => False) w w'):FR F g w' tmps vm ss s:=by
 have hsame:At (AW F g s.ob) w w':=hw.mono fun _ _ c => c.elim
 exact ⟨fun k hm hk => (h.home k hm hk).mono hsame (fun hp => hw.block _ ((h.home k hm hk).lt hp) (fun c => c)) fun _ _ c => c,h.inj,h.nF,fun b hb => Nat.lt_of_lt_of_le (h.fb b hb) hw.size,h.vl,h.sl,
  fun i hi => (h.vs i hi).mono hsame (fun _ _ c => c) fun k _ hm hk => ⟨hm,hk,rfl,rfl,rfl,rfl⟩,
  fun i hi => (h.st i hi).mono hsame (fun _ _ c => c) fun k _ hm hk => ⟨hm,hk,rfl,rfl,rfl,rfl⟩,h.fit,h.tab.mono hsame (fun _ _ c => c)⟩
theorem FR.forget {F:Nat → Prop} {g:Gh} {w:World} {tmps:Array Value} {vm ss:List Nat} {s:St} (h:FR F g w tmps vm ss s) {ob':CB} (φ:AV → AV) (hany:φ .any = .any)
  (hob:∀ k hm,AN k ob' = some hm → AN k s.ob = some hm)
  (hφ:∀ a,φ a = .any ∨ (φ a = a ∧ ∀ k,k ∈ a.keys → ∀ hm,AN k s.ob = some hm → AN k ob' = some hm)) (ok:Bool) :
  FR F g w tmps vm ss { vs:=s.vs.map φ,st:=s.st.map φ,ob:=ob',ok:=ok }:=by
 have hin:∀ k,Hb ob' k → Hb s.ob k:=fun k ⟨hm,hk⟩ => ⟨hm,hob k hm hk⟩
 refine h.slots φ hany (At.refl _ _) (fun b _ c => Fq hin c) (fun a v _ => ?_) (fun k hm hk => ?_) (fun k k' a b => h.inj k k' ⟨hin k a.1,a.2⟩ ⟨hin k' b.1,b.2⟩) (fun k a => h.nF k ⟨hin k a.1,a.2⟩) ok
 ·rcases hφ a with e | ⟨e,hk⟩
  ·exact .inl e
  ·exact .inr ⟨e,fun k hkk hm hg => ⟨hm,hk k hkk hm hg,rfl,rfl,rfl,rfl⟩⟩
 ·exact (h.home k hm (hob k hm hk)).mono (At.refl _ _) (fun _ => rfl) fun b _ c => Fq hin c
theorem Il {a:AV} {k:Nat}:a.names k = true ↔ k ∈ a.keys:=by
 simp [AV.names]
theorem FR.clear {F:Nat → Prop} {g:Gh} {w:World} {tmps:Array Value} {vm ss:List Nat} {s:St} (h:FR F g w tmps vm ss s) (d:Nat):FR F g w tmps vm ss (clear s d):=by
 unfold Go.Proofs.YtfaenphcgfocnaaGreatDoor.clear
 rw [AO]
 split
 ·refine h.forget (YK d) (by simp [YK,AV.keys]) (fun k hm hk => ?_) (fun a => ?_) s.ok
  ·rw [Ez] at hk; split at hk
   ·cases hk
   ·exact hk
  ·by_cases hc:a.keys.any (fun k => k / 32 == d) = true
   ·exact .inl (by simp only [YK,AO]; rw [if_pos hc])
   ·refine .inr ⟨by simp only [YK,AO]; rw [if_neg hc],fun k hk hm hg => ?_⟩
    rw [Ez,if_neg (fun e => hc (List.any_eq_true.2 ⟨k,hk,by simp [e]⟩))]
    exact hg
 ·exact h
theorem iT {F:Nat → Prop} {g:Gh} {w:World} {tmps:Array Value} {vm ss:List Nat} {s:St} (h:FR F g w tmps vm ss s) {d k:Nat} (hk:k / 32 = d):¬ Hb (clear s d).ob k:=by
 intro ⟨hm,hg⟩
 unfold Go.Proofs.YtfaenphcgfocnaaGreatDoor.clear at hg
 rw [AO] at hg
 split at hg
 ·simp [Ez,hk] at hg
 ·rename_i hn
  exact MF (by simpa using hn) hg hk
theorem FR.killAll {F:Nat → Prop} {g:Gh} {w:World} {tmps:Array Value} {vm ss:List Nat} {s:St} (h:FR F g w tmps vm ss s) (k:Nat):FR F g w tmps vm ss (killAll s k):=by
 refine h.forget (AV.kill k) (by simp [AV.kill,AV.names,AV.keys]) (fun j hm hk => ?_) (fun a => ?_) s.ok
 ·rw [Cg] at hk; split at hk
  ·cases hk
  ·exact hk
 ·by_cases hc:a.names k = true
  ·exact .inl (by simp [AV.kill,hc])
  ·refine .inr ⟨by simp [AV.kill,hc],fun j hj hm hg => ?_⟩
   rw [Cg,if_neg (fun e:k = j => hc (Il.2 (by rw [e]; exact hj)))]
   exact hg
theorem FR.add {F:Nat → Prop} {g:Gh} {w:World} {tmps:Array Value} {vm ss:List Nat} {s:St} (h:FR F g w tmps vm ss s) {k b cap:Nat} {hm:Hm} (hk:¬ Hb s.ob k)
  (hb:0 < cap → ∀ c,AW F g s.ob c → c ≠ b)
  (hnew:∀ S:Nat → Prop,(∀ c,S c → AW F g s.ob c ∨ c = b) → GJ S w b cap hm.sz hm.els)
  (hold:∀ k' h',AN k' s.ob = some h' → GJ (fun c => AW F g s.ob c ∨ c = b) w (g.β k') (g.cap k') h'.sz h'.els)
  (hvs:∀ i,i < vm.length → SR (fun c => AW F g s.ob c ∨ c = b) w g s.ob (tmps.getD (vm.getD i 0) undef) (s.vs.getD i .any))
  (hst:∀ i,i < ss.length → SR (fun c => AW F g s.ob c ∨ c = b) w g s.ob (tmps.getD (ss.getD i 0) undef) (s.st.getD i .any)) (htab:GT (fun c => AW F g s.ob c ∨ c = b) w) :
  FR F ⟨fun j => if j = k then b else g.β j,fun j => if j = k then cap else g.cap j⟩ w tmps vm ss { s with ob:=CD k hm s.ob }:=by
 have hβ:∀ j,Hb s.ob j → j ≠ k:=fun j hj e => hk (e ▸ hj)
 have hS:∀ c,AW F ⟨fun j => if j = k then b else g.β j,fun j => if j = k then cap else g.cap j⟩ (CD k hm s.ob) c → AW F g s.ob c ∨ c = b:=by
  intro c hc
  rcases hc with hc | ⟨j,⟨⟨hj,hg⟩,hcp⟩,e⟩
  ·exact .inl (.inl hc)
  ·rw [BJ] at hg
   by_cases hjk:k = j
   ·subst hjk; exact .inr (by simpa using e.symm)
   ·rw [if_neg hjk] at hg
    exact .inl (.inr ⟨j,⟨⟨hj,hg⟩,by simpa [Ne.symm hjk] using hcp⟩,by simpa [Ne.symm hjk] using e⟩)
 have hkey:∀ j,OJ g ⟨fun j => if j = k then b else g.β j,fun j => if j = k then cap else g.cap j⟩ s.ob (CD k hm s.ob) j:=by
  intro j h' hg
  have hne:=hβ j ⟨h',hg⟩
  exact ⟨h',by rw [BJ,if_neg (Ne.symm hne)]; exact hg,rfl,rfl,by simp [hne],by simp [hne]⟩
 refine ⟨fun j h' hg => ?_,fun j j' hj hj' e => ?_,fun j hj => ?_,h.fb,h.vl,h.sl,fun i hi => ?_,fun i hi => ?_,h.fit,htab.mono (At.refl _ _) fun c _ hc => hS c hc⟩
 ·simp only [BJ] at hg
  by_cases hjk:k = j
  ·subst hjk
   simp only [if_true,Option.some.injEq] at hg ⊢
   subst hg
   exact hnew _ hS
  ·rw [if_neg hjk] at hg
   simp only [if_neg (Ne.symm hjk)]
   exact (hold j h' hg).mono (At.refl _ _) (fun _ => rfl) fun c _ hc => hS c hc
 ·obtain ⟨⟨h1,hg1⟩,p1⟩:=hj
  obtain ⟨⟨h2,hg2⟩,p2⟩:=hj'
  simp only [BJ] at hg1 hg2
  by_cases a1:j = k
  ·by_cases a2:j' = k
   ·rw [a1,a2]
   ·rw [if_neg (Ne.symm a2)] at hg2
    simp only [a1,a2,if_true,if_false] at e p1 p2
    exact absurd e.symm (hb p1 _ (.inr ⟨j',⟨⟨h2,hg2⟩,p2⟩,rfl⟩))
  ·rw [if_neg (Ne.symm a1)] at hg1
   by_cases a2:j' = k
   ·simp only [a1,a2,if_true,if_false] at e p1 p2
    exact absurd e (hb p2 _ (.inr ⟨j,⟨⟨h1,hg1⟩,p1⟩,rfl⟩))
   ·rw [if_neg (Ne.symm a2)] at hg2
    simp only [a1,a2,if_false] at e p1 p2
    exact h.inj j j' ⟨⟨h1,hg1⟩,p1⟩ ⟨⟨h2,hg2⟩,p2⟩ e
 ·obtain ⟨⟨h1,hg1⟩,p1⟩:=hj
  simp only [BJ] at hg1
  by_cases a1:j = k
  ·simp only [a1,if_true] at p1 ⊢; exact fun hf => hb p1 _ (.inl hf) rfl
  ·rw [if_neg (Ne.symm a1)] at hg1
   simp only [a1,if_false] at p1 ⊢
   exact h.nF j ⟨⟨h1,hg1⟩,p1⟩
 ·exact (hvs i hi).mono (At.refl _ _) (fun c _ hc => hS c hc) fun j _ => hkey j
 ·exact (hst i hi).mono (At.refl _ _) (fun c _ hc => hS c hc) fun j _ => hkey j
def Dd (vm ss:List Nat):Option Nat → Gk → Option (List Nat)
 | none,.no => some ss
 | some d,.push => if d ∈ vm ∨ d ∈ ss then none else some (d :: ss)
 | some d,.var n => if vm[n]? = some d ∧ d ∉ ss ∧ d ∉ vm.eraseIdx n then some ss else none
 | some d,.slot n => if ss[n]? = some d ∧ d ∉ vm ∧ ss.Nodup then some ss else none
 | _,_ => none
def MQ (_:List Nat):Prop:=True
theorem TK {vm:List Nat} {n i d:Nat} (hn:vm[n]? = some d) (hd:d ∉ vm.eraseIdx n) (hi:i < vm.length) (hin:¬ n = i):d ≠ vm.getD i 0:=by
 intro e
 refine hd ?_
 rw [List.mem_eraseIdx_iff_getElem]
 exact ⟨i,hi,fun c => hin c.symm,by rw [e,List.getD_eq_getElem?_getD,List.getElem?_eq_getElem hi]; rfl⟩
def Fz (tmps:Array Value) (dst:Option Nat) (v:Value):Array Value :=
 match dst with
 | some d => tmps.setIfInBounds d v
 | none => tmps
theorem DJ {tmps:Array Value} {d t:Nat} {v:Value} (h:d ≠ t):(tmps.setIfInBounds d v).getD t undef = tmps.getD t undef:=by
 simp [Array.getD_eq_getD_getElem?,Array.getElem?_setIfInBounds_ne h]
theorem Gr {tmps:Array Value} {d:Nat} {v:Value} (h:d < tmps.size):(tmps.setIfInBounds d v).getD d undef = v:=by
 simp [Array.getD_eq_getD_getElem?,h]
theorem FR.put {F:Nat → Prop} {g:Gh} {w:World} {tmps:Array Value} {vm ss ss':List Nat} {s:St} (h:FR F g w tmps vm ss s) (hnd:MQ vm) {dst:Option Nat} {D:Gk} (hd:Dd vm ss dst D = some ss')
  (hfit:∀ d,dst = some d → d < tmps.size) {v:Value} {a:AV} (c:Bool) (hv:dst ≠ none → SR (AW F g s.ob) w g s.ob v a):FR F g w (Fz tmps dst v) vm ss' (BE s c a D):=by
 cases dst with
 | none =>
  cases D <;> simp [Dd] at hd
  subst hd
  exact h.setOk _
 | some d =>
  have hdt:=hfit d rfl
  have hv':=hv (by simp)
  cases D with
  | no => simp [Dd] at hd
  | push =>
   simp only [Dd] at hd
   split at hd
   ·cases hd
   rename_i hn
   simp only [Option.some.injEq] at hd
   subst hd
   have hn1:d ∉ vm:=fun c => hn (.inl c)
   have hn2:d ∉ ss:=fun c => hn (.inr c)
   refine ⟨h.home,h.inj,h.nF,h.fb,h.vl,by simpa [BE] using h.sl,fun i hi => ?_,fun i hi => ?_,fun t ht => ?_,h.tab⟩
   ·have hne:d ≠ vm.getD i 0:=fun e => hn1 (by rw [e,List.getD_eq_getElem?_getD,List.getElem?_eq_getElem hi]; exact List.getElem_mem hi)
    simp only [Fz,DJ hne]
    exact h.vs i hi
   ·cases i with
    | zero => simp only [Fz,BE,List.getD_cons_zero,Gr hdt]; exact hv'
    | succ i =>
     have hi':i < ss.length:=by simpa using hi
     have hne:d ≠ ss.getD i 0:=fun e => hn2 (by rw [e,List.getD_eq_getElem?_getD,List.getElem?_eq_getElem hi']; exact List.getElem_mem hi')
     simp only [Fz,BE,List.getD_cons_succ,DJ hne]
     exact h.st i hi'
   ·simp only [Fz,Array.size_setIfInBounds]
    rcases ht with ht | ht
    ·exact h.fit t (.inl ht)
    ·rcases List.mem_cons.1 ht with e | ht
     ·exact e ▸ hdt
     ·exact h.fit t (.inr ht)
  | slot n =>
   simp only [Dd] at hd
   split at hd
   ·rename_i hn
    simp only [Option.some.injEq] at hd
    subst hd
    obtain ⟨hn1,hn2,hsn⟩:=hn
    have hnl:n < ss.length:=by
     rcases Nat.lt_or_ge n ss.length with h' | h'
     ·exact h'
     ·rw [List.getElem?_eq_none h'] at hn1; cases hn1
    have hvn:ss.getD n 0 = d:=by rw [List.getD_eq_getElem?_getD,hn1]; rfl
    refine ⟨h.home,h.inj,h.nF,h.fb,h.vl,by simpa [BE] using h.sl,fun i hi => ?_,fun i hi => ?_,fun t ht => ?_,h.tab⟩
    ·have hne:d ≠ vm.getD i 0:=fun e => hn2 (by rw [e,List.getD_eq_getElem?_getD,List.getElem?_eq_getElem hi]; exact List.getElem_mem hi)
     simp only [Fz,DJ hne]
     exact h.vs i hi
    ·by_cases hin:n = i
     ·subst hin
      have:(s.st.set n a).getD n .any = a:=by
       rw [List.getD_eq_getElem?_getD,List.getElem?_set_self (by rw [h.sl]; exact hnl)]; rfl
      simp only [Fz,BE,hvn,Gr hdt,this]
      exact hv'
     ·have hne:d ≠ ss.getD i 0:=by
       intro e
       have h1:ss[n]? = ss[i]?:=by rw [hn1,e,List.getD_eq_getElem?_getD,List.getElem?_eq_getElem hi]; rfl
       exact hin ((List.getElem?_inj hnl hsn).1 h1)
      have:(s.st.set n a).getD i .any = s.st.getD i .any:=by
       rw [List.getD_eq_getElem?_getD,List.getElem?_set_ne hin,List.getD_eq_getElem?_getD]
      simp only [Fz,BE,DJ hne,this]
      exact h.st i hi
    ·simp only [Fz,Array.size_setIfInBounds]; exact h.fit t ht
   ·cases hd
  | var n =>
   simp only [Dd] at hd
   split at hd
   ·rename_i hn
    simp only [Option.some.injEq] at hd
    subst hd
    obtain ⟨hn1,hn2,hn3⟩:=hn
    have hnl:n < vm.length:=by
     rcases Nat.lt_or_ge n vm.length with h' | h'
     ·exact h'
     ·rw [List.getElem?_eq_none h'] at hn1; cases hn1
    have hvn:vm.getD n 0 = d:=by rw [List.getD_eq_getElem?_getD,hn1]; rfl
    refine ⟨h.home,h.inj,h.nF,h.fb,by simpa [BE] using h.vl,h.sl,fun i hi => ?_,fun i hi => ?_,fun t ht => ?_,h.tab⟩
    ·by_cases hin:n = i
     ·subst hin
      have:(s.vs.set n a).getD n .any = a:=by
       rw [List.getD_eq_getElem?_getD,List.getElem?_set_self (by rw [h.vl]; exact hnl)]; rfl
      simp only [Fz,BE,hvn,Gr hdt,this]
      exact hv'
     ·have hne:d ≠ vm.getD i 0:=TK hn1 hn3 hi hin
      have:(s.vs.set n a).getD i .any = s.vs.getD i .any:=by
       rw [List.getD_eq_getElem?_getD,List.getElem?_set_ne hin,List.getD_eq_getElem?_getD]
      simp only [Fz,BE,DJ hne,this]
      exact h.vs i hi
    ·have hne:d ≠ ss.getD i 0:=fun e => hn2 (by rw [e,List.getD_eq_getElem?_getD,List.getElem?_eq_getElem hi]; exact List.getElem_mem hi)
     simp only [Fz,DJ hne]
     exact h.st i hi
    ·simp only [Fz,Array.size_setIfInBounds]; exact h.fit t ht
   ·cases hd
open Go Go.RowKit
set_option linter.unusedSimpArgs false
set_option linter.unusedVariables false
def AEc (k:IntKind) (n:Int):Value → Bool
 | .int j m => j == k && m == n
 | _ => false
def yc (b:Bool):Value → Bool
 | .bool a => a == b
 | _ => false
def AEb (l:List UInt8):Value → Bool
 | .string s => s.data.toList == l
 | _ => false
def vP:Value → Bool
 | .slice a l c => a.isNone && (l == 0 && c == 0)
 | _ => false
def GX:Value → Nat
 | .pointer none => 1
 | .nilFunc => 2
 | .nilIface => 3
 | .tuple vs => if vs.size = 0 then 4 else 0
 | _ => 0
def vL (v:Value):AV → Bool
 | .int k n => AEc k n v
 | .bool b => yc b v
 | .str l => AEb l v
 | .nilsl => vP v
 | .sl sz els => vP v && (els.isEmpty && decide (1 ≤ sz))
 | .cv u => GX v == GX u && !(GX v == 0)
 | .any => true
 | _ => false
def Tf:List Value → List AV → Bool
 | [],[] => true
 | v :: vs,a :: as => vL v a && (a.atom && Tf vs as)
 | _,_ => false
def pW:Value → List Value
 | .agg cs => cs.toList
 | v => [v]
def AEd:Value → Bool
 | .agg _ => true
 | _ => false
def eqv (v:Value):AV → Bool
 | .agg as => AEd v && Tf (pW v) as
 | .int k n => vL v (.int k n)
 | .bool b => vL v (.bool b)
 | .str l => vL v (.str l)
 | .nilsl => vL v .nilsl
 | .sl sz els => vL v (.sl sz els)
 | .cv u => vL v (.cv u)
 | .any => true
 | _ => false
def BP (vm ss:List Nat):Operand → CA → Bool
 | .tmp t,.v n => vm[n]? == some t
 | .tmp t,.s n => ss[n]? == some t
 | .const v,.c a => eqv v a
 | .func f,.c (.fn (.func g) [] []) => f == g
 | _,_ => false
theorem YE:∀ (vs:List Value) (as:List AV),Tf vs as = true → vs.length = as.length
 | [],[],_ => rfl
 | [],_ :: _,h => by simp [Tf] at h
 | _ :: _,[],h => by simp [Tf] at h
 | v :: vs,a :: as,h => by
  simp only [Tf,Bool.and_eq_true] at h
  simp [YE vs as h.2.2]
theorem Mz:∀ (vs:List Value) (as:List AV) (j:Nat),Tf vs as = true → j < as.length → vL (vs.getD j undef) (as.getD j .any) = true ∧ (as.getD j .any).atom = true
 | [],[],j,_,hj => by simp at hj
 | [],_ :: _,_,h,_ => by simp [Tf] at h
 | _ :: _,[],_,h,_ => by simp [Tf] at h
 | v :: vs,a :: as,0,h,_ => by simp only [Tf,Bool.and_eq_true] at h; exact ⟨h.1,h.2.1⟩
 | v :: vs,a :: as,j + 1,h,hj => by
  simp only [Tf,Bool.and_eq_true] at h
  simpa using Mz vs as j h.2.2 (by simpa using hj)
theorem DV (cs:Array Value) (j:Nat):cs.toList.getD j undef = cs.getD j undef:=by
 simp [List.getD_eq_getElem?_getD,Array.getD_eq_getD_getElem?]
theorem kF {v u:Value} (h:GX v = GX u) (h0:GX v ≠ 0):v = u:=by
 have key:∀ x:Value,(GX x = 1 → x = .pointer none) ∧ (GX x = 2 → x = .nilFunc) ∧ (GX x = 3 → x = .nilIface) ∧ (GX x = 4 → x = .tuple #[]) ∧ GX x ≤ 4:=by
  intro x
  cases x
  case pointer p => cases p <;> simp [GX]
  case tuple vs =>
   simp only [GX]
   by_cases hs:vs.size = 0
   ·have:vs = #[]:=Array.eq_empty_of_size_eq_zero hs
    subst this; simp
   ·simp [hs]
  all_goals simp [GX]
 obtain ⟨a1,a2,a3,a4,a5⟩:=key v
 obtain ⟨b1,b2,b3,b4,b5⟩:=key u
 have:GX v = 1 ∨ GX v = 2 ∨ GX v = 3 ∨ GX v = 4:=by omega
 rcases this with e | e | e | e
 ·rw [a1 e,b1 (h ▸ e)]
 ·rw [a2 e,b2 (h ▸ e)]
 ·rw [a3 e,b3 (h ▸ e)]
 ·rw [a4 e,b4 (h ▸ e)]
theorem iQ {S:Nat → Prop} {w:World} {v:Value} {a:AV} (h:vL v a = true):VR S w v a:=by
 cases a <;> simp only [vL] at h <;> try (cases h; done)
 case any => exact .any
 case int k n =>
  cases v <;> simp [AEc] at h
  obtain ⟨rfl,rfl⟩:=h; exact .int
 case bool b => cases v <;> simp [yc] at h; subst h; exact .bool
 case str l =>
  cases v <;> simp [AEb] at h
  rename_i s
  subst h
  have:s = ⟨s.data.toList.toArray⟩:=by cases s; simp
  rw [this]; exact .str
 case nilsl =>
  cases v <;> simp [vP] at h
  obtain ⟨rfl,rfl,rfl⟩:=h; exact .nilsl
 case sl sz els =>
  cases v <;> simp [vP] at h
  obtain ⟨⟨rfl,rfl,rfl⟩,h1,h2⟩:=h
  subst h1
  exact .sl 0 0 (fun _ _ => undef) rfl (Nat.le_refl _) h2 (fun c => by simp at c) (fun i hi => by simp at hi) (fun i j hi => by simp at hi) (fun i j hi => by simp at hi)
 case cv u =>
  simp only [Bool.and_eq_true,beq_iff_eq,Bool.not_eq_true',beq_eq_false_iff_ne] at h
  rw [kF h.1 h.2]; exact .cv
theorem cd {S:Nat → Prop} {w:World} {v:Value} {a:AV} (h:eqv v a = true):VR S w v a:=by
 cases a <;> simp only [eqv] at h <;> try (cases h; done)
 case agg as =>
  simp only [Bool.and_eq_true] at h
  obtain ⟨h0,h⟩:=h
  cases v <;> simp [AEd] at h0
  rename_i cs
  simp only [pW] at h
  refine .agg (by simpa using YE _ _ h) (fun j hj => (Mz _ _ j h hj).2) fun j hj => ?_
  have:=Mz _ _ j h hj
  rw [← DV]
  exact iQ this.1
 case any => exact .any
 all_goals exact iQ h
theorem VR.toSR {S:Nat → Prop} {w:World} {g:Gh} {ob:CB} {v:Value} {a:AV} (h:VR S w v a):SR S w g ob v a:=by
 have one:∀ {v a},VR S w v a → LI S w g ob v a:=by
  intro v a h
  cases a <;> first | exact h | (cases h)
 cases a
 case fn f a1 a2 => cases h with | fn n1 n2 h1 h2 => exact ⟨_,_,rfl,n1,n2,fun j hj => one (h1 j hj),fun j hj => one (h2 j hj)⟩
 case tup as => cases h with | tup n h1 => exact ⟨_,rfl,n,fun j hj => one (h1 j hj)⟩
 case opt b a' => cases h
 all_goals first | exact h | cases h
theorem LI.toSR {S:Nat → Prop} {w:World} {g:Gh} {ob:CB} {v:Value} {a:AV} (h:LI S w g ob v a):SR S w g ob v a:=by
 cases a
 case own => exact h
 case ref => exact h
 all_goals exact VR.toSR h
theorem FR.src {F:Nat → Prop} {g:Gh} {w:World} {tmps:Array Value} {ds:List Deferred} {vm ss:List Nat} {s:St} (h:FR F g w tmps vm ss s) {x:Operand} {y:CA} (hc:BP vm ss x y = true) :
  SR (AW F g s.ob) w g s.ob (({ tmps:=tmps,defers:=ds }:Act).eval x) (rd s y):=by
 cases x
 case tmp t =>
  cases y
  case v n =>
   simp only [BP,beq_iff_eq] at hc
   have hl:n < vm.length:=by
    rcases Nat.lt_or_ge n vm.length with h' | h'
    ·exact h'
    ·rw [List.getElem?_eq_none h'] at hc; cases hc
   have:=h.vs n hl
   rw [List.getD_eq_getElem?_getD (l:=vm),hc] at this
   exact this
  case s n =>
   simp only [BP,beq_iff_eq] at hc
   have hl:n < ss.length:=by
    rcases Nat.lt_or_ge n ss.length with h' | h'
    ·exact h'
    ·rw [List.getElem?_eq_none h'] at hc; cases hc
   have:=h.st n hl
   rw [List.getD_eq_getElem?_getD (l:=ss),hc] at this
   exact this
  case c a => simp [BP] at hc
 case const v =>
  cases y <;> simp only [BP] at hc <;> try (cases hc; done)
  exact (cd hc).toSR
 case func f =>
  cases y <;> try (simp [BP] at hc; done)
  rename_i a
  cases a <;> try (simp [BP] at hc; done)
  rename_i fn a1 a2
  cases fn <;> try (simp [BP] at hc; done)
  cases a1 <;> cases a2 <;> simp [BP] at hc
  subst hc
  exact ⟨#[],#[],rfl,rfl,rfl,fun j hj => by simp at hj,fun j hj => by simp at hj⟩
 case global g => cases y <;> simp [BP] at hc
def BG (S:Nat → Prop) (w:World) (g:Gh) (ob:CB) (key:Nat) (m:Mk) (r:Result Next):Prop :=
 ∃ v w',r = .ok (.value v) w' ∧ At (fun _ => False) w w' ∧
  ((m.hs = [] ∧ SR S w' g ob v m.v) ∨
   ∃ k h b cap,m.hs = [(k,h)] ∧ (k / 32 = key ∧ k % 32 ≠ 31) ∧ w.heap.size ≤ b ∧ (∀ S':Nat → Prop,(∀ c,S' c → S c ∨ c = b) → GJ S' w' b cap h.sz h.els) ∧
   ((m.v = .own k ∧ (v = .slice (some ⟨b,0,none⟩) h.els.length cap ∨ (cap = 0 ∧ v = .slice none 0 0))) ∨ (m.v = .ref k 0 0 ∧ 0 < h.els.length ∧ v = .pointer (some ⟨b,0,none⟩))))
theorem BG.val {S:Nat → Prop} {w:World} {g:Gh} {ob:CB} {key:Nat} {m:Mk} {r:Result Next} {v:Value} (hr:r = .ok (.value v) w) (hh:m.hs = []) (h:SR S w g ob v m.v):BG S w g ob key m r :=
 ⟨v,w,hr,At.refl _ _,.inl ⟨hh,h⟩⟩
theorem Yo {v:Value} (h:v.oneCell' = true):v.cells = #[v]:=by cases v <;> first | rfl | (simp [Value.oneCell'] at h)
theorem FK {a:AV} (h:a.atoms = true) {j:Nat} (hj:j < a.cells.length):(a.cells.getD j .any).atom = true:=by
 simp only [AV.atoms,List.all_eq_true] at h
 refine h _ ?_
 rw [List.getD_eq_getElem?_getD,List.getElem?_eq_getElem hj]
 exact List.getElem_mem hj
theorem Sk {a:AV} (h:a.isAgg = false):a.cells = [a]:=by cases a <;> first | rfl | (simp [AV.isAgg] at h)
theorem VR.cells {S:Nat → Prop} {w:World} {v:Value} {a:AV} (h:VR S w v a) (ha:a.atoms = true) :
  v.cells.size = a.cells.length ∧ ∀ j,j < a.cells.length → VR S w (v.cells.getD j undef) (a.cells.getD j .any):=by
 by_cases hg:a.isAgg = true
 ·cases a <;> simp [AV.isAgg] at hg
  cases h with | agg hn _ h1 => exact ⟨hn,h1⟩
 ·have hg':a.isAgg = false:=by simpa using hg
  have hc:=Sk hg'
  have hat:a.atom = true:=by have:=FK ha (j:=0) (by simp [hc]); simpa [hc] using this
  rw [Yo (h.oneCell hat),hc]
  refine ⟨rfl,fun j hj => ?_⟩
  have:j = 0:=by simpa using hj
  subst this
  exact h
theorem SR.atoms {S:Nat → Prop} {w:World} {g:Gh} {ob:CB} {v:Value} {a:AV} (h:SR S w g ob v a) (ha:a.atoms = true):VR S w v a:=by
 cases a
 case fn f a1 a2 =>
  obtain ⟨v1,v2,rfl,n1,n2,h1,h2⟩:=h
  have hat:(AV.fn f a1 a2).atom = true:=by simpa [AV.atoms,AV.cells] using ha
  simp only [AV.atom,List.all_append,Bool.and_eq_true,List.all_eq_true,List.isEmpty_iff] at hat
  have one:∀ {u:Value} {as:List AV} {j:Nat},j < as.length → (∀ x,x ∈ as → x.key1 = []) → LI S w g ob u (as.getD j .any) → VR S w u (as.getD j .any):=by
   intro u as j hj hall hs
   have hm:as.getD j .any ∈ as:=by rw [List.getD_eq_getElem?_getD,List.getElem?_eq_getElem hj]; exact List.getElem_mem hj
   have hk:=hall _ hm
   revert hs hk
   generalize as.getD j .any = x
   intro hs hk
   cases x <;> first | exact hs | (simp [AV.key1] at hk)
  exact .fn n1 n2 (fun j hj => one hj hat.1 (h1 j hj)) (fun j hj => one hj hat.2 (h2 j hj))
 all_goals first | exact h | (simp [AV.atoms,AV.cells,AV.atom] at ha)
theorem ti {S S':Nat → Prop} {w:World} {v:Value} {a:AV} (h:VR S w v a) (ha:a.atoms = true) (hp:1 ≤ a.cells.length) (t:TypeId) (hS:∀ c,S' c → S c ∨ c = w.heap.size) :
  GJ S' (w.alloc (.cells v.cells t)) w.heap.size 1 a.cells.length [a]:=by
 have hc:=h.cells ha
 refine ⟨hp,by simp,fun i hi => ?_,fun _ => ⟨v.cells,t,(0,0),heap_alloc_new _ _,.inl rfl,by simp [hc.1],fun i j hi hj => ?_⟩⟩
 ·have:i = 0:=by simpa using hi
  subst this; exact ⟨rfl,ha⟩
 ·have:i = 0:=by simpa using hi
  subst this
  simp only [Nat.zero_mul,Nat.zero_add,List.getD_cons_zero]
  refine (hc.2 j hj).mono (At.alloc _ _ _) fun b hb hc => ?_
  rcases hS b hc with e | e
  ·exact e
  ·omega
theorem ZF {S:Nat → Prop} {w:World} {g:Gh} {ob:CB} {key:Nat} {P:Program} {t:TypeId} {v:Value} {a:AV} (h:VR S w v a) (hok:(Th (Ba key) a).ok = true) {r:Result Next}
  (hr:r = .ok (.value (.pointer (some ⟨w.heap.size,0,none⟩))) (w.alloc (.cells v.cells t))):BG S w g ob key (Th (Ba key) a) r:=by
 simp only [Th,Bool.and_eq_true,decide_eq_true_eq] at hok
 exact ⟨_,_,hr,At.alloc _ _ _,.inr ⟨_,_,w.heap.size,1,rfl,by simp [Ba],Nat.le_refl _,fun S' hS => ti h hok.2 hok.1 t hS,.inr ⟨rfl,by simp,rfl⟩⟩⟩
end Go.Proofs.YtfaenphcgfocnaaGreatDoor
