/- The text of a function: its statements, its branches, its loops. No condition. -/
import Derived.Test.YtfaenphcgfocnaaGreatDoorEngUC
namespace Go.Proofs.YtfaenphcgfocnaaGreatDoor
open Go Go.RowKit
set_option linter.unusedSimpArgs false
set_option linter.unusedVariables false
def jx (P:Program) (n:Nat) (vm:List Nat):Code → IR → Bool
 | .skip,.skip => true
 | .label _,.skip => true
 | .region _ ops false,.region false is => (Kq P n ops vm [] ops.toList is).isSome
 | .seq (.region _ ops false) (.cond c a b),.test false is c' a' b' => (match Kq P n ops vm [] ops.toList is with
  | some ss => BP vm ss c c'
  | none => false) && (jx P n vm a a' && jx P n vm b b')
 | .region _ ops true,.anyo k is alts .skip => co P n ops vm (AAA vm ops) k is alts
 | .seq (.region _ ops true) (.cond c a b),.anyo k is alts (.cond c' a' b') => co P n ops vm (AAA vm ops) k is alts && (BP vm (AAA vm ops) c c' && (jx P n vm a a' && jx P n vm b b'))
 | .seq a b,.seq a' b' => jx P n vm a a' && jx P n vm b b'
 | .cond c a b,.cond c' a' b' => BP vm [] c c' && (jx P n vm a a' && jx P n vm b b')
 | .block i a,.block j a' => i == j && jx P n vm a a'
 | .loop a,.loop keep out rt a' => keep.length == vm.length && (out.length == vm.length && (rt.length == vm.length && jx P n vm a a'))
 | .exit i,.exit j => i == j
 | .ret,.ret => true
 | c,.mask m a' => m.length == vm.length && jx P n vm c a'
 | _,_ => false
def Wx:Ex → Exit
 | .norm => .normal
 | .exit id => .exit id
 | .ret => .ret
theorem uN {s:St}:(fI s).ok = s.ok:=by
 unfold fI; cases s.ob <;> rfl
theorem Gp {m:List Bool} {s:St}:(keepS m s).ok = s.ok:=by
 unfold keepS; rw [uN]; rfl
theorem SU {m:List Bool} {r:EB} (h:(Pq m r).2.ok = true):r.2.ok = true:=by
 obtain ⟨e,s⟩:=r
 cases e
 ·simpa only [Pq,Gp] using h
 ·exact h
 ·exact h
theorem Pt {f:St → EB} {keep ot rt:List Bool} (hf:∀ s,(f s).2.ok = true → s.ok = true):∀ n s,(Bk f keep ot rt n s).2.ok = true → s.ok = true
 | 0,s,h => by simp [Bk,fail] at h
 | n + 1,s,h => by
  simp only [Bk] at h
  have ih:=Pt (keep:=keep) (ot:=ot) (rt:=rt) hf n
  revert h
  have h2:=hf s
  generalize f s = r at h2
  intro h
  obtain ⟨e,s'⟩:=r
  cases e
  ·simp only [HY,HS] at h; have h3:=ih _ h; rw [Gp] at h3; exact h2 h3
  ·simp only [HY,HS,Gp] at h; exact h2 h
  ·simp only [HY,HS,Gp] at h; exact h2 h
theorem kB {T:Ht} {k:Nat} {is:List Jx} {alts:List (List Nat)} {s:St} (h:(RB T k is alts s).ok = true):(EG T is (slots k s)).ok = true ∧ NJ T is (slots k s) (EG T is (slots k s)) alts = true:=by
 simpa [RB,kC] using h
theorem DK {T:Ht} {L:Nat}:∀ (ir:IR) {s:St},(Az T L ir s).2.ok = true → s.ok = true
 | .skip,_,h => h
 | .region _ is,s,h => KB is (s:=s) h
 | .test _ is c a b,s,h => by
  simp only [Az,PN] at h
  refine KB (T:=T) is (s:=s) ?_
  cases hv:rd (EG T is s) c <;> rw [hv] at h <;> simp only [KN,fail] at h <;> (try (cases h; done))
  split at h
  ·have h3:=DK a h; exact h3
  ·have h3:=DK b h; exact h3
 | .anyo k is alts .skip,s,h => by
  simp only [Az] at h
  have h3:=KB (T:=T) is (s:=slots k s) (kB (s:=s) h).1
  exact h3
 | .anyo k is alts (.cond c a b),s,h => by
  simp only [Az,PN] at h
  have h2:(RB T k is alts s).ok = true:=by
   cases hv:rd (RB T k is alts s) c <;> rw [hv] at h <;> simp only [KN,fail] at h <;> (try (cases h; done))
   split at h
   ·have h3:=DK a h; exact h3
   ·have h3:=DK b h; exact h3
  have h3:=KB (T:=T) is (s:=slots k s) (kB h2).1
  exact h3
 | .anyo k is alts (.region _ _),s,h => by simp [Az,fail] at h
 | .anyo k is alts (.test _ _ _ _ _),s,h => by simp [Az,fail] at h
 | .anyo k is alts (.anyo _ _ _ _),s,h => by simp [Az,fail] at h
 | .anyo k is alts (.seq _ _),s,h => by simp [Az,fail] at h
 | .anyo k is alts (.block _ _),s,h => by simp [Az,fail] at h
 | .anyo k is alts (.loop _ _ _ _),s,h => by simp [Az,fail] at h
 | .anyo k is alts (.mask _ _),s,h => by simp [Az,fail] at h
 | .anyo k is alts (.exit _),s,h => by simp [Az,fail] at h
 | .anyo k is alts .ret,s,h => by simp [Az,fail] at h
 | .seq a b,s,h => by
  simp only [Az] at h
  have ha:=@DK T L a s
  revert h ha
  generalize Az T L a s = r
  intro h ha
  obtain ⟨e,s'⟩:=r
  cases e
  ·have h3:=DK b h; exact ha h3
  ·exact ha h
  ·exact ha h
 | .cond c a b,s,h => by
  simp only [Az] at h
  cases hv:rd s c <;> rw [hv] at h <;> simp only [KN,fail] at h <;> (try (cases h; done))
  split at h
  ·have h3:=DK a h; exact h3
  ·have h3:=DK b h; exact h3
 | .block id a,s,h => by
  simp only [Az] at h
  have ha:=@DK T L a s
  revert h ha
  generalize Az T L a s = r
  intro h ha
  obtain ⟨e,s'⟩:=r
  cases e
  ·exact ha h
  ·refine ha ?_
   simp only [Mu] at h
   rw [AO] at h
   split at h <;> exact h
  ·exact ha h
 | .loop keep out rt a,s,h => by
  simp only [Az] at h
  have:=Pt (f:=Az T L a) (keep:=keep) (fun s h => DK a h) L (keepS keep s) h
  rwa [Gp] at this
 | .mask m a,s,h => by
  simp only [Az] at h
  exact DK a (SU h)
 | .exit _,_,h => h
 | .ret,_,h => h
theorem Ot:∀ (m:List Bool) (tm:List AV),m.length = tm.length → (Ga m tm).length = tm.length
 | [],[],_ => rfl
 | [],_ :: _,h => by simp at h
 | _ :: _,[],h => by simp at h
 | b :: m,a :: tm,h => by cases b <;> simp [Ga,Ot m tm (by simpa using h)]
theorem XS:∀ (m:List Bool) (tm:List AV) (i:Nat),(Ga m tm).getD i .any = .any ∨ (Ga m tm).getD i .any = tm.getD i .any
 | [],_,i => .inl (by simp [Ga])
 | _ :: _,[],i => .inl (by simp [Ga])
 | b :: m,a :: tm,0 => by cases b <;> simp [Ga]
 | b :: m,a :: tm,i + 1 => by
  have:=XS m tm i
  cases b <;> simpa [Ga] using this
theorem Lz (tm:List AV) (k:Nat):∀ ob:CB,AN k (Mr tm ob) = if tm.any (fun a => a.names k) = true then AN k ob else none
 | [] => by simp [Mr,AN]
 | p :: r => by
  have ih:=Lz tm k r
  simp only [Mr,AO]
  by_cases h:tm.any (fun a => a.names p.1) = true
  ·rw [if_pos h]
   simp only [AN,AO,beq_iff_eq]
   by_cases e:p.1 = k
   ·subst e; simp [h]
   ·simp only [if_neg e,ih]
  ·rw [if_neg h,ih]
   simp only [AN,AO,beq_iff_eq]
   by_cases e:p.1 = k
   ·subst e; simp [h]
   ·simp only [if_neg e]
theorem so {p:Nat → Prop}:∀ m,p m → ∃ m,p m ∧ ∀ k,p k → m ≤ k:=by
 intro m
 induction m using Nat.strongRecOn with
 | _ m ih =>
  intro h
  by_cases hx:∃ k,k < m ∧ p k
  ·obtain ⟨k,hk,hp⟩:=hx
   exact ih k hk hp
  ·refine ⟨m,h,fun k hp => ?_⟩
   rcases Nat.lt_or_ge k m with hlt | hge
   ·exact absurd ⟨k,hlt,hp⟩ hx
   ·exact hge
noncomputable def To (p:Nat → Prop):Nat:=Classical.epsilon fun m => p m ∧ ∀ k,p k → m ≤ k
theorem Pr {p:Nat → Prop} (h:∃ m,p m):p (To p) ∧ ∀ k,p k → To p ≤ k:=by
 obtain ⟨m,hm⟩:=h
 exact Classical.epsilon_spec (so m hm)
section
variable {F Iow:Nat → Prop} {w0:World} {g0:Gh} {o0:CB} {g:Gh} {w w':World} {tmps:Array Value} {ds:List Deferred} {vm ss ss':List Nat} {s:St} {P:Program} {T:Ht}
 {Q:Exit → Act → World → Prop} {ops:Array Oper} {n:Nat}
theorem FX.drop (h:FX F Iow w0 g0 o0 g w tmps vm ss s):FX F Iow w0 g0 o0 g w tmps vm [] (drop s) :=
 ⟨⟨h.home,h.inj,h.nF,h.fb,h.vl,rfl,h.vs,fun i hi => by simp at hi,fun t ht => h.fit t (by rcases ht with ht | ht; exact .inl ht; simp at ht),h.tab⟩,h.same,h.hio,h.fio,h.par⟩
theorem FX.keepB (h:FX F Iow w0 g0 o0 g w tmps vm [] s) {m:List Bool} (hm:m.length = vm.length):FX F Iow w0 g0 o0 g w tmps vm [] (keepB m s):=by
 have hget:∀ k hm',AN k (Go.Proofs.YtfaenphcgfocnaaGreatDoor.keepB m s).ob = some hm' → AN k s.ob = some hm':=by
  intro k hm' hg
  simp only [Go.Proofs.YtfaenphcgfocnaaGreatDoor.keepB,Lz] at hg
  split at hg
  ·exact hg
  ·cases hg
 have hin:∀ k,Hb (Go.Proofs.YtfaenphcgfocnaaGreatDoor.keepB m s).ob k → Hb s.ob k:=fun k ⟨hm',hg⟩ => ⟨hm',hget k hm' hg⟩
 have hlen:m.length = s.vs.length:=by rw [hm,h.vl]
 refine ⟨⟨fun k hm' hg => (h.home k hm' (hget k hm' hg)).mono (At.refl _ _) (fun _ => rfl) fun b _ c => Fq hin c,fun k k' a b => h.inj k k' ⟨hin k a.1,a.2⟩ ⟨hin k' b.1,b.2⟩,fun k a => h.nF k ⟨hin k a.1,a.2⟩,h.fb,
  by simp [Go.Proofs.YtfaenphcgfocnaaGreatDoor.keepB,Ot m s.vs hlen,h.vl],rfl,fun i hi => ?_,fun i hi => by simp at hi,h.fit,h.tab.mono (At.refl _ _) fun b _ c => Fq hin c⟩,h.same,fun k hk => h.hio k ⟨hin k hk.1,hk.2⟩,h.fio,h.par.sub hget⟩
 rcases XS m s.vs i with e | e
 ·simp only [Go.Proofs.YtfaenphcgfocnaaGreatDoor.keepB]; rw [e]; exact SR.any
 ·have hmem:(Ga m s.vs).getD i .any ∈ Ga m s.vs:=by
   have:i < (Ga m s.vs).length:=by rw [Ot m s.vs hlen,h.vl]; exact hi
   rw [List.getD_eq_getElem?_getD,List.getElem?_eq_getElem this]; exact List.getElem_mem this
  have h1:=h.vs i hi
  simp only [Go.Proofs.YtfaenphcgfocnaaGreatDoor.keepB]
  rw [← e] at h1
  refine h1.mono (At.refl _ _) (fun b _ c => Fq hin c) fun k hk hm' hg => ⟨hm',?_,rfl,rfl,rfl,rfl⟩
  rw [Lz,if_pos (List.any_eq_true.2 ⟨_,hmem,Il.2 hk⟩)]
  exact hg
theorem cf {k:Nat}:∀ (l seen:List Nat),k ∈ zI seen l ↔ k ∈ l ∧ k ∉ seen
 | [],seen => by simp [zI]
 | x :: r,seen => by
  simp only [zI,AO]
  by_cases h:(seen.any fun y => y == x) = true
  ·rw [if_pos h,cf r seen]
   have hx:x ∈ seen:=by simpa using h
   simp only [List.mem_cons]
   constructor
   ·rintro ⟨a,b⟩; exact ⟨.inr a,b⟩
   ·rintro ⟨a | a,b⟩
    ·subst a; exact absurd hx b
    ·exact ⟨a,b⟩
  ·rw [if_neg h]
   have hx:x ∉ seen:=by simpa using h
   simp only [List.mem_cons,cf r (x :: seen),not_or]
   constructor
   ·rintro (a | ⟨a,b,c⟩)
    ·subst a; exact ⟨.inl rfl,hx⟩
    ·exact ⟨.inr a,c⟩
   ·rintro ⟨a | a,b⟩
    ·exact .inl a
    ·by_cases e:k = x
     ·exact .inl e
     ·exact .inr ⟨a,e,b⟩
theorem iW (j x:Nat):Sl j x % 32 = 31 ↔ x % 32 = 31:=by
 unfold Sl
 rw [AO]
 split
 ·rfl
 ·rename_i h; simp only [beq_iff_eq] at h; omega
theorem NW:∀ (ks:List Nat) (j k:Nat),jK ks j k % 32 = 31 ↔ k % 32 = 31
 | [],_,_ => Iff.rfl
 | x :: r,j,k => by
  simp only [jK,AO,beq_iff_eq]
  split
  ·rename_i e; subst e; exact iW j k
  ·exact NW r (j + 1) k
theorem Tm:∀ (ks:List Nat) (j k:Nat),k % 32 = 31 → jK ks j k = k
 | [],_,_,_ => rfl
 | x :: r,j,k,h => by
  simp only [jK,AO,beq_iff_eq]
  split
  ·rename_i e; subst e; unfold Sl; rw [AO,if_pos (by simpa using h)]
  ·exact Tm r (j + 1) k h
theorem gM:∀ (ks:List Nat) (j k:Nat),k ∈ ks → k % 32 ≠ 31 → ∃ i,j ≤ i ∧ jK ks j k = 32 * (100000 + i) ∧ ∃ h:i - j < ks.length,ks[i - j]'h = k
 | [],_,_,h,_ => by simp at h
 | x :: r,j,k,h,hm => by
  simp only [jK,AO,beq_iff_eq]
  by_cases e:k = x
  ·subst e
   rw [if_pos rfl]
   refine ⟨j,Nat.le_refl _,?_,by simp,by simp⟩
   unfold Sl; rw [AO,if_neg (by simpa using hm)]
  ·rw [if_neg e]
   rcases List.mem_cons.1 h with h' | h'
   ·exact absurd h' e
   ·obtain ⟨i,h1,h2,h3,h4⟩:=gM r (j + 1) k h' hm
    refine ⟨i,by omega,h2,?_,?_⟩
    ·simp only [List.length_cons]; omega
    ·have:i - j = (i - (j + 1)) + 1:=by omega
     simp only [this,List.getElem_cons_succ,h4]
theorem vv {ks:List Nat} {k k':Nat} (h:k ∈ ks) (h':k' ∈ ks) (e:jK ks 0 k = jK ks 0 k'):k = k':=by
 by_cases hm:k % 32 = 31
 ·have hm':k' % 32 = 31:=by rw [← NW ks 0 k',← e,NW]; exact hm
  rwa [Tm _ _ _ hm,Tm _ _ _ hm'] at e
 ·have hm':k' % 32 ≠ 31:=fun c => hm (by rw [← NW ks 0 k,e,NW]; exact c)
  obtain ⟨i,_,a1,a2,a3⟩:=gM ks 0 k h hm
  obtain ⟨i',_,b1,b2,b3⟩:=gM ks 0 k' h' hm'
  have:i = i':=by omega
  subst this
  exact a3.symm.trans b3
theorem dg {π:Nat → Nat} {ob:CB}:∀ (ks:List Nat),(∀ k k',k ∈ ks → k' ∈ ks → π k = π k' → k = k') → ∀ j h,AN j (az π ob ks) = some h → ∃ k,k ∈ ks ∧ j = π k ∧ AN k ob = some h
 | [],_,j,h,e => by simp [az,AN] at e
 | k :: r,hi,j,h,e => by
  have ih:=dg (ob:=ob) r (fun a b ha hb => hi a b (by simp [ha]) (by simp [hb])) j h
  simp only [az] at e
  cases ho:AN k ob with
  | none =>
   rw [ho] at e
   obtain ⟨a,h1,h2,h3⟩:=ih e
   exact ⟨a,by simp [h1],h2,h3⟩
  | some hm =>
   rw [ho] at e
   simp only [ZO,BJ] at e
   split at e
   ·rename_i e1
    cases e
    exact ⟨k,by simp,e1.symm,ho⟩
   ·obtain ⟨a,h1,h2,h3⟩:=ih e
    exact ⟨a,by simp [h1],h2,h3⟩
theorem df {π:Nat → Nat} {ob:CB}:∀ (ks:List Nat),(∀ k k',k ∈ ks → k' ∈ ks → π k = π k' → k = k') → ∀ k h,k ∈ ks → AN k ob = some h → AN (π k) (az π ob ks) = some h
 | [],_,k,h,hk,_ => by simp at hk
 | x :: r,hi,k,h,hk,ho => by
  have ih:=df (ob:=ob) r (fun a b ha hb => hi a b (by simp [ha]) (by simp [hb])) k h
  simp only [az]
  by_cases e:k = x
  ·subst e
   rw [ho]
   simp [ZO,BJ]
  ·have hk':k ∈ r:=by
    rcases List.mem_cons.1 hk with c | c
    ·exact absurd c e
    ·exact c
   cases hx:AN x ob with
   | none => exact ih hk' ho
   | some hm =>
    simp only [ZO,BJ]
    rw [if_neg fun c => e (hi k x (by simp [hk']) (by simp) c.symm)]
    exact ih hk' ho
theorem LI.re {S S':Nat → Prop} {w:World} {g g':Gh} {ob ob':CB} {π:Nat → Nat} (hS:∀ b,S' b → S b) {v:Value} {a:AV}
  (hk:∀ k,k ∈ a.key1 → ∀ h,AN k ob = some h → AN (π k) ob' = some h ∧ g'.β (π k) = g.β k ∧ g'.cap (π k) = g.cap k) (h:LI S w g ob v a):LI S' w g' ob' v (a.re1 π):=by
 cases a
 case own k =>
  obtain ⟨hm,ho,hv⟩:=h
  obtain ⟨e1,e2,e3⟩:=hk k (by simp [AV.key1]) hm ho
  exact ⟨hm,e1,by rw [e2,e3]; exact hv⟩
 case ref k i off =>
  obtain ⟨hm,ho,hi,rfl⟩:=h
  obtain ⟨e1,e2,_⟩:=hk k (by simp [AV.key1]) hm ho
  exact ⟨hm,e1,hi,by rw [e2]⟩
 all_goals exact VR.mono (At.refl _ _) (fun b _ c => hS b c) h
theorem MH (π:Nat → Nat) (l:List AV) (i:Nat):(l.map (AV.re1 π)).getD i .any = AV.re1 π (l.getD i .any):=Be _ rfl l i
theorem SR.re {S S':Nat → Prop} {w:World} {g g':Gh} {ob ob':CB} {π:Nat → Nat} (hS:∀ b,S' b → S b) {v:Value} {a:AV}
  (hk:∀ k,k ∈ a.keys → ∀ h,AN k ob = some h → AN (π k) ob' = some h ∧ g'.β (π k) = g.β k ∧ g'.cap (π k) = g.cap k) (h:SR S w g ob v a):SR S' w g' ob' v (a.re π):=by
 cases a
 case fn f a1 a2 =>
  obtain ⟨v1,v2,rfl,n1,n2,h1,h2⟩:=h
  refine ⟨v1,v2,rfl,by simp [n1],by simp [n2],fun j hj => ?_,fun j hj => ?_⟩
  ·rw [MH]
   refine (h1 j (by simpa using hj)).re hS fun k hkk => hk k ?_
   simp only [AV.keys,List.flatMap_append,List.mem_append]; exact .inl (CK (by simpa using hj) hkk)
  ·rw [MH]
   refine (h2 j (by simpa using hj)).re hS fun k hkk => hk k ?_
   simp only [AV.keys,List.flatMap_append,List.mem_append]; exact .inr (CK (by simpa using hj) hkk)
 case tup as =>
  obtain ⟨vs,rfl,n,h1⟩:=h
  refine ⟨vs,rfl,by simp [n],fun j hj => ?_⟩
  rw [MH]
  exact (h1 j (by simpa using hj)).re hS fun k hkk => hk k (CK (by simpa using hj) hkk)
 case opt b a =>
  simp only [SR,AV.re] at h ⊢
  split at h
  ·rename_i hb; rw [if_pos hb]; exact h.re hS hk
  ·rename_i hb; rw [if_neg hb]; exact h
 case own k => exact LI.re (w:=w) (a:=.own k) hS (fun k' hk' => hk k' (by simpa [AV.keys,AV.key1] using hk')) h
 case ref k i off => exact LI.re (w:=w) (a:=.ref k i off) hS (fun k' hk' => hk k' (by simpa [AV.keys,AV.key1] using hk')) h
 all_goals exact VR.mono (At.refl _ _) (fun b _ c => hS b c) h
theorem FX.canonK (h:FX F Iow w0 g0 o0 g w tmps vm [] s) {ks:List Nat} (hks:∀ k,Hb s.ob k → k ∈ ks):∃ g',FX F Iow w0 g0 o0 g' w tmps vm [] (canonK s ks):=by
 have hinj:=@vv ks
 let π:=jK ks 0
 let σ:Nat → Nat:=fun j => Classical.epsilon fun k => k ∈ ks ∧ π k = j
 have hσ:∀ k,k ∈ ks → σ (π k) = k:=by
  intro k hk
  have:=Classical.epsilon_spec (p:=fun k' => k' ∈ ks ∧ π k' = π k) ⟨k,hk,rfl⟩
  exact hinj this.1 hk this.2
 have hget:∀ j hm,AN j (Go.Proofs.YtfaenphcgfocnaaGreatDoor.canonK s ks).ob = some hm → ∃ k,k ∈ ks ∧ j = π k ∧ AN k s.ob = some hm:=fun j hm hg => dg ks (fun _ _ => hinj) j hm hg
 have hhas:∀ k hm,AN k s.ob = some hm → AN (π k) (Go.Proofs.YtfaenphcgfocnaaGreatDoor.canonK s ks).ob = some hm:=fun k hm hg => df ks (fun _ _ => hinj) k hm (hks k ⟨hm,hg⟩) hg
 let g':Gh:=⟨fun j => g.β (σ j),fun j => g.cap (σ j)⟩
 have hliv:∀ j,LG g' (Go.Proofs.YtfaenphcgfocnaaGreatDoor.canonK s ks).ob j → LG g s.ob (σ j) ∧ j = π (σ j):=by
  rintro j ⟨⟨hm,hg⟩,hc⟩
  obtain ⟨k,hk,rfl,ho⟩:=hget j hm hg
  refine ⟨⟨⟨hm,?_⟩,hc⟩,?_⟩
  ·rw [hσ k hk]; exact ho
  ·rw [hσ k hk]
 have hS:∀ b,AW F g' (Go.Proofs.YtfaenphcgfocnaaGreatDoor.canonK s ks).ob b → AW F g s.ob b:=by
  rintro b (hb | ⟨j,hj,e⟩)
  ·exact .inl hb
  ·exact .inr ⟨σ j,(hliv j hj).1,e⟩
 refine ⟨g',⟨fun j hm hg => ?_,fun j j' a b e => ?_,fun j a => h.nF (σ j) (hliv j a).1,h.fb,by simpa [Go.Proofs.YtfaenphcgfocnaaGreatDoor.canonK] using h.vl,rfl,fun i hi => ?_,fun i hi => by simp at hi,h.fit,h.tab.mono (At.refl _ _) fun b _ c => hS b c⟩,h.same,fun j hj => h.hio (σ j) (hliv j hj).1,h.fio,fun j hm hj hg => ?_⟩
 ·obtain ⟨k,hk,rfl,ho⟩:=hget j hm hg
  have:=h.home k hm ho
  have e1:g'.β (π k) = g.β k:=by simp only [g']; rw [hσ k hk]
  have e2:g'.cap (π k) = g.cap k:=by simp only [g']; rw [hσ k hk]
  rw [e1,e2]
  exact this.mono (At.refl _ _) (fun _ => rfl) fun b _ c => hS b c
 ·obtain ⟨a1,a2⟩:=hliv j a
  obtain ⟨b1,b2⟩:=hliv j' b
  have:=h.inj (σ j) (σ j') a1 b1 e
  rw [a2,b2,this]
 ·have h1:=h.vs i hi
  simp only [Go.Proofs.YtfaenphcgfocnaaGreatDoor.canonK]
  rw [Be _ rfl]
  refine h1.re hS fun k hk hm ho => ⟨hhas k hm ho,?_,?_⟩
  ·simp only [g']; rw [hσ k (hks k ⟨hm,ho⟩)]
  ·simp only [g']; rw [hσ k (hks k ⟨hm,ho⟩)]
 ·obtain ⟨k,hk,rfl,ho⟩:=hget j hm hg
  have hkm:k % 32 = 31:=(NW ks 0 k).1 hj
  have e0:π k = k:=Tm ks 0 k hkm
  obtain ⟨h0,p1,p2,p3,p4⟩:=h.par k hm hkm ho
  refine ⟨h0,by rw [e0]; exact p1,p2,p3,fun e => ?_⟩
  have e1:g'.β (π k) = g.β k:=by simp only [g']; rw [hσ k hk]
  have e2:g'.cap (π k) = g.cap k:=by simp only [g']; rw [hσ k hk]
  rw [e1,e2,e0]
  exact p4 e
theorem FX.keepS (h:FX F Iow w0 g0 o0 g w tmps vm [] s) {m:List Bool} (hm:m.length = vm.length):∃ g',FX F Iow w0 g0 o0 g' w tmps vm [] (keepS m s):=by
 have h1:=h.keepB hm
 unfold Go.Proofs.YtfaenphcgfocnaaGreatDoor.keepS fI
 cases ho:(Go.Proofs.YtfaenphcgfocnaaGreatDoor.keepB m s).ob with
 | nil => exact ⟨g,h1⟩
 | cons p r =>
  refine h1.canonK fun k hk => ?_
  rw [cf]
  refine ⟨?_,by simp⟩
  obtain ⟨hm',hg⟩:=hk
  simp only [Go.Proofs.YtfaenphcgfocnaaGreatDoor.keepB,Lz] at hg
  split at hg
  ·rename_i hn
   obtain ⟨a,ha,hb⟩:=List.any_eq_true.1 hn
   exact List.mem_flatMap.2 ⟨a,ha,Il.1 hb⟩
  ·cases hg
theorem YH (h:FR F g w tmps vm ss s) {c:Operand} {c':CA} (hc:BP vm ss c c' = true) {b:Bool} (hb:rd s c' = .bool b):({ tmps:=tmps,defers:=ds }:Act).eval c = .bool b:=by
 have:=h.src (ds:=ds) hc
 rw [hb] at this
 exact Lm this
theorem kq {L:Nat} {c:Code} {f:St → EB} {keep out rt:List Bool} (hk:keep.length = vm.length) (ho:out.length = vm.length) (hrt:rt.length = vm.length)
  (body:∀ {Q:Exit → Act → World → Prop} {s:St} {g:Gh} {w:World} {tmps:Array Value},FX F Iow w0 g0 o0 g w tmps vm [] s → tmps.size = n → (f s).2.ok = true →
   (∀ tmps' w' g',tmps'.size = n → FX F Iow w0 g0 o0 g' w' tmps' vm [] (f s).2 → Q (Wx (f s).1) ⟨tmps',ds⟩ w') → c.wp P Q ⟨tmps,ds⟩ w)
  (hf:∀ s,(f s).2.ok = true → s.ok = true)
  (h:FX F Iow w0 g0 o0 g w tmps vm [] s) (hn:tmps.size = n) (hok:(Bk f keep out rt L (keepS keep s)).2.ok = true)
  (hK:∀ tmps' w' g',tmps'.size = n → FX F Iow w0 g0 o0 g' w' tmps' vm [] (Bk f keep out rt L (keepS keep s)).2 → Q (Wx (Bk f keep out rt L (keepS keep s)).1) ⟨tmps',ds⟩ w'):(Code.loop c).wp P Q ⟨tmps,ds⟩ w:=by
 generalize hr:Bk f keep out rt L (keepS keep s) = r at hok hK
 let J:Nat → Act → World → Prop:=fun m a w => ∃ tmps s g,a = ⟨tmps,ds⟩ ∧ tmps.size = n ∧ FX F Iow w0 g0 o0 g w tmps vm [] s ∧ Bk f keep out rt m s = r
 obtain ⟨g1,h1⟩:=h.keepS hk
 refine wp_loop (fun a w => ∃ m,J m a w) (fun a w => To fun m => J m a w) ⟨L,tmps,_,g1,rfl,hn,h1,hr⟩ fun a w hI => ?_
 have hfind:=(Pr hI).1
 revert hfind
 generalize To (fun m => J m a w) = m
 rintro ⟨tmps,s,g,rfl,hn,hfx,hit⟩
 cases m with
 | zero => rw [← hit] at hok; simp [Bk,fail] at hok
 | succ m =>
  simp only [Bk] at hit
  have hfok:(f s).2.ok = true:=by
   rw [← hit] at hok
   revert hok
   generalize f s = q
   intro hok
   obtain ⟨e,s'⟩:=q
   cases e
   ·simp only [HY,HS] at hok; have h3:=Pt hf m _ hok; rwa [Gp] at h3
   ·simpa only [HY,HS,Gp] using hok
   ·simpa only [HY,HS,Gp] using hok
  refine body hfx hn hfok fun tmps' w' g' hn' hfx' => ?_
  revert hit hfx'
  generalize f s = q
  intro hit hfx'
  obtain ⟨e,s'⟩:=q
  cases e
  ·simp only [HY,HS] at hit
   simp only [Wx,Exit.then]
   obtain ⟨g2,h2⟩:=FX.keepS hfx' hk
   have hJ:J m ⟨tmps',ds⟩ w':=⟨tmps',_,g2,rfl,hn',h2,hit⟩
   exact ⟨⟨m,hJ⟩,Nat.lt_succ_of_le ((Pr ⟨m,hJ⟩).2 m hJ)⟩
  ·simp only [HY,HS] at hit
   subst hit
   obtain ⟨g2,h2⟩:=FX.keepS hfx' ho
   exact hK _ _ _ hn' h2
  ·simp only [HY,HS] at hit
   subst hit
   obtain ⟨g2,h2⟩:=FX.keepS hfx' hrt
   exact hK _ _ _ hn' h2
theorem Hq {L:Nat} (hT:JL P T) (hnd:MQ vm):∀ (c:Code) (ir:IR) {Q:Exit → Act → World → Prop} {s:St} {g:Gh} {w:World} {tmps:Array Value},jx P n vm c ir = true → FX F Iow w0 g0 o0 g w tmps vm [] s → tmps.size = n → (Az T L ir s).2.ok = true →
  (∀ tmps' w' g',tmps'.size = n → FX F Iow w0 g0 o0 g' w' tmps' vm [] (Az T L ir s).2 → Q (Wx (Az T L ir s).1) ⟨tmps',ds⟩ w') → c.wp P Q ⟨tmps,ds⟩ w
 | c,ir,Q,s,g,w,tmps,hc,h,hn,hok,hK => by
  unfold jx at hc
  split at hc
  ·exact wp_skip (hK _ _ _ hn h)
  ·exact wp_label (hK _ _ _ hn h)
  ·rename_i id ops is
   obtain ⟨ss',hs⟩:=Option.isSome_iff_exists.1 hc
   simp only [Az] at hok hK
   exact wp_region_list (SV hT hnd ops.toList is h hn hs hok fun tmps' w' g' hn' hfx => hK _ _ _ hn' hfx.drop)
  ·rename_i id ops c a b is c' a' b'
   simp only [Bool.and_eq_true] at hc
   obtain ⟨hc1,hc2,hc3⟩:=hc
   split at hc1
   ·rename_i ss' hs
    simp only [Az,PN] at hok hK
    have hlok:(EG T is s).ok = true:=by
     cases hv:rd (EG T is s) c' <;> rw [hv] at hok <;> simp only [KN,fail] at hok <;> (try (cases hok; done))
     split at hok
     ·have h3:=DK a' hok; exact h3
     ·have h3:=DK b' hok; exact h3
    refine wp_seq (wp_region_list (SV hT hnd ops.toList is h hn hs hlok fun tmps' w' g' hn' hfx => ?_))
    simp only [Exit.then]
    cases hv:rd (EG T is s) c' <;> rw [hv] at hok hK <;> simp only [KN,fail] at hok hK <;> (try (cases hok; done))
    rename_i bv
    refine wp_cond (YH hfx.toFR hc1 hv) ?_
    cases bv
    ·simp only [Bool.false_eq_true,if_false] at hok hK ⊢
     exact Hq hT hnd b b' hc3 hfx.drop hn' hok hK
    ·simp only [if_true] at hok hK ⊢
     exact Hq hT hnd a a' hc2 hfx.drop hn' hok hK
   ·cases hc1
  ·rename_i id ops k is alts
   simp only [Az] at hok hK
   exact ue hT hnd hc h hn hok fun tmps' w' g' hn' hfx => hK _ _ _ hn' hfx.drop
  ·rename_i id ops c a b k is alts c' a' b'
   simp only [Bool.and_eq_true] at hc
   obtain ⟨hc1,hc2,hc3,hc4⟩:=hc
   simp only [Az,PN] at hok hK
   have hlok:(RB T k is alts s).ok = true:=by
    cases hv:rd (RB T k is alts s) c' <;> rw [hv] at hok <;> simp only [KN,fail] at hok <;> (try (cases hok; done))
    split at hok
    ·have h3:=DK a' hok; exact h3
    ·have h3:=DK b' hok; exact h3
   refine wp_seq (ue hT hnd hc1 h hn hlok fun tmps' w' g' hn' hfx => ?_)
   simp only [Exit.then]
   cases hv:rd (RB T k is alts s) c' <;> rw [hv] at hok hK <;> simp only [KN,fail] at hok hK <;> (try (cases hok; done))
   rename_i bv
   refine wp_cond (YH hfx.toFR hc2 hv) ?_
   cases bv
   ·simp only [Bool.false_eq_true,if_false] at hok hK ⊢
    exact Hq hT hnd b b' hc4 hfx.drop hn' hok hK
   ·simp only [if_true] at hok hK ⊢
    exact Hq hT hnd a a' hc3 hfx.drop hn' hok hK
  ·rename_i a b a' b'
   simp only [Bool.and_eq_true] at hc
   simp only [Az] at hok hK
   have hfst:(Az T L a' s).2.ok = true:=by
    revert hok
    generalize Az T L a' s = r
    intro hok
    obtain ⟨e,s'⟩:=r
    cases e
    ·have h3:=DK b' hok; exact h3
    ·exact hok
    ·exact hok
   refine wp_seq (Hq hT hnd a a' hc.1 h hn hfst fun tmps' w' g' hn' hfx => ?_)
   revert hok hK hfx
   generalize Az T L a' s = r
   intro hok hK hfx
   obtain ⟨e,s'⟩:=r
   cases e
   ·exact Hq hT hnd b b' hc.2 hfx hn' hok hK
   ·exact hK _ _ _ hn' hfx
   ·exact hK _ _ _ hn' hfx
  ·rename_i c a b c' a' b'
   simp only [Bool.and_eq_true] at hc
   obtain ⟨hc1,hc2,hc3⟩:=hc
   simp only [Az] at hok hK
   cases hv:rd s c' <;> rw [hv] at hok hK <;> simp only [KN,fail] at hok hK <;> (try (cases hok; done))
   rename_i bv
   refine wp_cond (YH h.toFR hc1 hv) ?_
   cases bv
   ·simp only [Bool.false_eq_true,if_false] at hok hK ⊢
    exact Hq hT hnd b b' hc3 h hn hok hK
   ·simp only [if_true] at hok hK ⊢
    exact Hq hT hnd a a' hc2 h hn hok hK
  ·rename_i i a j a'
   simp only [Bool.and_eq_true,beq_iff_eq] at hc
   obtain ⟨rfl,hc⟩:=hc
   simp only [Az] at hok hK
   have hfst:(Az T L a' s).2.ok = true:=by
    revert hok
    generalize Az T L a' s = r
    intro hok
    obtain ⟨e,s'⟩:=r
    cases e
    ·exact hok
    ·simp only [Mu] at hok
     rw [AO] at hok
     split at hok <;> exact hok
    ·exact hok
   refine wp_block (Hq hT hnd a a' hc h hn hfst fun tmps' w' g' hn' hfx => ?_)
   revert hok hK hfx
   generalize Az T L a' s = r
   intro hok hK hfx
   obtain ⟨e,s'⟩:=r
   cases e
   ·exact hK _ _ _ hn' hfx
   ·rename_i k
    simp only [Wx,Exit.inBlock]
    simp only [Mu,AO,beq_iff_eq] at hK
    by_cases e:k = i
    ·rw [if_pos e]
     rw [if_pos e] at hK
     exact hK _ _ _ hn' hfx
    ·rw [if_neg e]
     rw [if_neg e] at hK
     exact hK _ _ _ hn' hfx
   ·exact hK _ _ _ hn' hfx
  ·rename_i a keep out rt a'
   simp only [Bool.and_eq_true,beq_iff_eq] at hc
   obtain ⟨hk,ho,hrt,hc⟩:=hc
   simp only [Az] at hok hK
   exact kq hk ho hrt (fun {Q s g w tmps} hfx hn' hok' hK' => Hq hT hnd a a' hc hfx hn' hok' hK') (fun s hs => DK a' hs) h hn hok hK
  ·rename_i i j
   simp only [beq_iff_eq] at hc
   subst hc
   exact wp_exit (hK _ _ _ hn h)
  ·exact wp_ret (hK _ _ _ hn h)
  ·rename_i m a'
   simp only [Bool.and_eq_true,beq_iff_eq] at hc
   obtain ⟨hm,hc⟩:=hc
   simp only [Az] at hok hK
   refine Hq hT hnd _ a' hc h hn (SU hok) fun tmps' w' g' hn' hfx => ?_
   revert hok hK hfx
   generalize Az T L a' s = r
   intro hok hK hfx
   obtain ⟨e,s'⟩:=r
   cases e
   ·obtain ⟨g2,h2⟩:=FX.keepS hfx hm
    exact hK _ _ _ hn' h2
   ·exact hK _ _ _ hn' hfx
   ·exact hK _ _ _ hn' hfx
  ·cases hc
end
end Go.Proofs.YtfaenphcgfocnaaGreatDoor
