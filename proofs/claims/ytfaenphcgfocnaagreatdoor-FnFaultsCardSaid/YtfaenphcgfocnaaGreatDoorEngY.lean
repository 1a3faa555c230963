/- Contracts: a function's small form, run as long as is needed. No condition. -/
import Derived.Test.YtfaenphcgfocnaaGreatDoorEngX
namespace Go.Proofs.YtfaenphcgfocnaaGreatDoor
open Go Go.RowKit
set_option linter.unusedSimpArgs false
set_option linter.unusedVariables false
theorem Zd {f f':St → EB} {keep ot rt:List Bool} (hf:∀ s,(f s).2.ok = true → f' s = f s) (hfm:∀ s,(f s).2.ok = true → s.ok = true):∀ n m s,n ≤ m → (Bk f keep ot rt n s).2.ok = true → Bk f' keep ot rt m s = Bk f keep ot rt n s
 | 0,_,s,_,h => by simp [Bk,fail] at h
 | n + 1,0,s,hm,_ => by omega
 | n + 1,m + 1,s,hm,h => by
  simp only [Bk] at h ⊢
  have hok:(f s).2.ok = true:=by
   revert h
   generalize f s = r
   intro h
   obtain ⟨e,s'⟩:=r
   cases e
   ·simp only [HY,HS] at h; have h3:=Pt hfm n _ h; rwa [Gp] at h3
   ·simpa only [HY,HS,Gp] using h
   ·simpa only [HY,HS,Gp] using h
  rw [hf s hok]
  revert h
  generalize f s = r
  intro h
  obtain ⟨e,s'⟩:=r
  cases e
  ·simp only [HY,HS] at h ⊢; exact Zd hf hfm n m _ (by omega) h
  ·rfl
  ·rfl
theorem Eu {T:Ht} {L M:Nat} (hLM:L ≤ M):∀ (ir:IR) {s:St},(Az T L ir s).2.ok = true → Az T M ir s = Az T L ir s
 | .skip,_,_ => rfl
 | .region _ is,s,_ => rfl
 | .test _ is c a b,s,h => by
  simp only [Az,PN] at h ⊢
  cases hv:rd (EG T is s) c <;> rw [hv] at h <;> simp only [KN,fail] at h ⊢
  split at h
  ·rename_i hb; rw [if_pos hb,if_pos hb]; exact Eu hLM a h
  ·rename_i hb; rw [if_neg hb,if_neg hb]; exact Eu hLM b h
 | .anyo k is alts .skip,s,h => rfl
 | .anyo k is alts (.cond c a b),s,h => by
  simp only [Az,PN] at h ⊢
  cases hv:rd (RB T k is alts s) c <;> rw [hv] at h <;> simp only [KN,fail] at h ⊢
  split at h
  ·rename_i hb; rw [if_pos hb,if_pos hb]; exact Eu hLM a h
  ·rename_i hb; rw [if_neg hb,if_neg hb]; exact Eu hLM b h
 | .anyo k is alts (.region _ _),s,h => rfl
 | .anyo k is alts (.test _ _ _ _ _),s,h => rfl
 | .anyo k is alts (.anyo _ _ _ _),s,h => rfl
 | .anyo k is alts (.seq _ _),s,h => rfl
 | .anyo k is alts (.block _ _),s,h => rfl
 | .anyo k is alts (.loop _ _ _ _),s,h => rfl
 | .anyo k is alts (.mask _ _),s,h => rfl
 | .anyo k is alts (.exit _),s,h => rfl
 | .anyo k is alts .ret,s,h => rfl
 | .seq a b,s,h => by
  simp only [Az] at h ⊢
  have hok:(Az T L a s).2.ok = true:=by
   revert h
   generalize Az T L a s = r
   intro h
   obtain ⟨e,s'⟩:=r
   cases e
   ·have h3:=DK b h; exact h3
   ·exact h
   ·exact h
  rw [Eu hLM a hok]
  revert h
  generalize Az T L a s = r
  intro h
  obtain ⟨e,s'⟩:=r
  cases e
  ·exact Eu hLM b h
  ·rfl
  ·rfl
 | .cond c a b,s,h => by
  simp only [Az] at h ⊢
  cases hv:rd s c <;> rw [hv] at h <;> simp only [KN,fail] at h ⊢
  split at h
  ·rename_i hb; rw [if_pos hb,if_pos hb]; exact Eu hLM a h
  ·rename_i hb; rw [if_neg hb,if_neg hb]; exact Eu hLM b h
 | .block id a,s,h => by
  simp only [Az] at h ⊢
  have hok:(Az T L a s).2.ok = true:=by
   revert h
   generalize Az T L a s = r
   intro h
   obtain ⟨e,s'⟩:=r
   cases e
   ·exact h
   ·simp only [Mu] at h; rw [AO] at h; split at h <;> exact h
   ·exact h
  rw [Eu hLM a hok]
 | .loop keep out rt a,s,h => by
  simp only [Az] at h ⊢
  exact Zd (f:=Az T L a) (f':=Az T M a) (fun s hs => Eu hLM a hs) (fun s hs => DK a hs) L M (keepS keep s) hLM h
 | .mask m a,s,h => by
  simp only [Az] at h ⊢
  rw [Eu hLM a (SU h)]
 | .exit _,_,_ => rfl
 | .ret,_,_ => rfl
theorem nX {fn:CI} {modes:List Md} {args:List AV} {r:EB} (h:(Ir fn modes args r).ok = true):r.2.ok = true:=by
 obtain ⟨e,s⟩:=r
 cases e <;> simp only [Ir,YB,Rs.bad,Bool.and_eq_true] at h
 ·exact h.1
 ·cases h
 ·exact h.1
theorem ZN {T:Ht} {L M:Nat} (hLM:L ≤ M) {fn:CI} {modes:List Md} {args:List AV} (h:(Ky T L fn modes args).ok = true):Ky T M fn modes args = Ky T L fn modes args:=by
 simp only [Ky,fH,Bool.and_eq_true] at h ⊢
 rw [Eu hLM fn.body (nX h.2)]
noncomputable def bK (T:Ht) (fn:CI) (modes:List Md) (args:List AV):Rs :=
 Ky T (Classical.epsilon fun L => (Ky T L fn modes args).ok = true) fn modes args
theorem bJ {T:Ht} {L:Nat} {fn:CI} {modes:List Md} {args:List AV} {r:Rs} (h:Ky T L fn modes args = r) (hok:r.ok = true):bK T fn modes args = r:=by
 have h0:(Ky T L fn modes args).ok = true:=by rw [h]; exact hok
 have h1:(bK T fn modes args).ok = true:=Classical.epsilon_spec (p:=fun L => (Ky T L fn modes args).ok = true) ⟨L,h0⟩
 unfold bK at h1 ⊢
 generalize (Classical.epsilon fun L => (Ky T L fn modes args).ok = true) = M at h1 ⊢
 rw [← h]
 rcases Nat.le_total L M with hle | hle
 ·exact ZN hle h0
 ·exact (ZN hle h1).symm
def AR:List (Nat × Ax) → Ht
 | [],_ => none
 | p :: r,f => bif f == p.1 then some p.2 else AR r f
theorem Lv {P:Program}:∀ {l:List (Nat × Ax)},(∀ p,p ∈ l → AU P p.1 p.2) → JL P (AR l)
 | [],_,f,C,h => by simp [AR] at h
 | p :: r,hl,f,C,h => by
  simp only [AR,AO,beq_iff_eq] at h
  split at h
  ·rename_i e
   simp only [Option.some.injEq] at h
   subst h; subst e
   exact hl p (by simp)
  ·exact Lv (fun q hq => hl q (by simp [hq])) f C h
theorem AP {P:Program}:∀ p,p ∈ ([]:List (Nat × Ax)) → AU P p.1 p.2:=fun p h => by simp at h
theorem AG {P:Program} {f:Nat} {C:Ax} {l:List (Nat × Ax)} (h:AU P f C) (hl:∀ p,p ∈ l → AU P p.1 p.2):∀ p,p ∈ (f,C) :: l → AU P p.1 p.2:=by
 intro p hp
 rcases List.mem_cons.1 hp with e | hp
 ·subst e; exact h
 ·exact hl p hp
def ACm (q:Rs):Rs:=⟨q.ok && Fo q.r,q.r,q.outs⟩
noncomputable def OE (l:List (Nat × Ax)) (fn:CI) (modes:List Md):Ax:=⟨modes,false,bK (AR l) fn modes⟩
noncomputable def Di (l:List (Nat × Ax)) (fn:CI) (modes:List Md):Ax:=⟨modes,true,fun args => ACm (bK (AR l) fn modes args)⟩
def badC (modes:List Md):Ax:=⟨modes,false,fun _ => Rs.bad⟩
theorem AGO {l:List (Nat × Ax)} {fn:CI} {modes:List Md} {args:List AV} (L:Nat) {r:AV} {outs:List AV} (h:Ky (AR l) L fn modes args = ⟨true,r,outs⟩):(OE l fn modes).F args = ⟨true,r,outs⟩:=bJ h rfl
theorem AGP {l:List (Nat × Ax)} {fn:CI} {modes:List Md} {args:List AV} (L:Nat) {r:AV} {outs:List AV} (h:Ky (AR l) L fn modes args = ⟨true,r,outs⟩) (hf:Fo r = true):(Di l fn modes).F args = ⟨true,r,outs⟩:=by
 simp only [Di,ACm]; rw [bJ h rfl]; simp [hf]
theorem SW {P:Program} {T:Ht} {f:FuncId} {fn:CI} {vm:List Nat} (hT:JL P T) (hc:Af P f fn vm = true) (modes:List Md):AU P f ⟨modes,false,bK T fn modes⟩:=by
 unfold AU
 refine ⟨fun e => Bool.noConfusion e,fun F g0 w args vargs hsh hsz hfr hok => ?_⟩
 exact (tw hT hc (Classical.epsilon fun L => (Ky T L fn modes args).ok = true) modes).2 F g0 w args vargs hsh hsz hfr hok
theorem Bb {P:Program} {l:List (Nat × Ax)} {f:FuncId} {fn:CI} {vm:List Nat} (modes:List Md) (hl:∀ p,p ∈ l → AU P p.1 p.2) (hc:Af P f fn vm = true):AU P f (OE l fn modes):=SW (Lv hl) hc modes
theorem AM {P:Program} {l:List (Nat × Ax)} {f:FuncId} {fn:CI} {vm:List Nat} (modes:List Md) (hm:wA modes = true) (hl:∀ p,p ∈ l → AU P p.1 p.2) (hc:Af P f fn vm = true):AU P f (Di l fn modes):=by
 have h:=SW (Lv hl) hc modes
 unfold AU at h ⊢
 refine ⟨fun _ => hm,fun F g0 w args vargs hsh hsz hfr hok => ?_⟩
 simp only [Di,ACm,Bool.and_eq_true] at hok ⊢
 exact ⟨fun _ => hok.2,(h.2 F g0 w args vargs hsh hsz hfr hok.1).2⟩
noncomputable def mkZ (l:List (Nat × Ax)) (fn:CI) (modes:List Md):Ax:=⟨modes,false,fun args => ⟨(bK (AR l) fn modes args).ok,Qs (bK (AR l) fn modes args).r,(bK (AR l) fn modes args).outs⟩⟩
theorem AGM {l:List (Nat × Ax)} {fn:CI} {modes:List Md} {args:List AV} {r:AV} {outs:List AV} (h:∃ L0,∀ L,L0 ≤ L → AGh (Ky (AR l) L fn modes args) = ⟨true,r,outs⟩):(mkZ l fn modes).F args = ⟨true,r,outs⟩:=by
 obtain ⟨L,h⟩:=h
 have h:=h L (Nat.le_refl _)
 have hok:(Ky (AR l) L fn modes args).ok = true:=congrArg Rs.ok h
 simp only [mkZ]
 rw [bJ (r:=Ky (AR l) L fn modes args) rfl hok]
 exact h
def Fi (p:Nat → Bool):CB → CB
 | [] => []
 | q :: r => bif p q.1 then Fi p r else q :: Fi p r
theorem Pm (p:Nat → Bool) (k:Nat):∀ ob:CB,AN k (Fi p ob) = if p k = true then none else AN k ob
 | [] => by simp [Fi,AN]
 | q :: r => by
  have ih:=Pm p k r
  by_cases hq:p q.1 = true
  ·by_cases hk:p k = true
   ·simp [Fi,AO,hq,hk,ih]
   ·have hne:q.1 ≠ k:=fun e => hk (e ▸ hq)
    simp [Fi,AN,AO,hq,hk,ih,hne]
  ·by_cases hk:p k = true
   ·have hne:q.1 ≠ k:=fun e => hq (e ▸ hk)
    simp [Fi,AN,AO,hq,hk,ih,hne]
   ·simp [Fi,AN,AO,hq,hk,ih]
theorem nU (a:AV):Gb (Td a) = false:=by cases a <;> rfl
theorem Oy {r:AV} {i:Nat} (h:Gs (Qs r) i):False:=by
 cases r
 case tup cs =>
  obtain ⟨j,_,hj,hf⟩:=h
  have:(cs.map Td).getD j .any = Td (cs.getD j .any):=Be _ rfl _ _
  rw [this,nU] at hf; cases hf
 all_goals
  simp only [Qs,Td,Gs,Gb] at h
  first | exact absurd h.2 Bool.false_ne_true | (simp at h)
open Classical in
theorem fa {F:Nat → Prop} {g0 g:Gh} {w w':World} {args:List AV} {modes:List Md} {v:Value} {r:AV} {outs:List AV} {ob:CB} {κ:Nat → Nat}
  (B:Yh F g0 args modes w v w' r outs g ob κ):Yh F g0 args modes w v w' (Qs r) outs g (Fi (fun k => decide (∃ i,Gs r i ∧ κ i = k)) ob) κ:=by
 have hget:∀ k,AN k (Fi (fun k => decide (∃ i,Gs r i ∧ κ i = k)) ob) = if (∃ i,Gs r i ∧ κ i = k) then none else AN k ob:=by
  intro k; rw [Pm]; simp
 have hsub:∀ k h,AN k (Fi (fun k => decide (∃ i,Gs r i ∧ κ i = k)) ob) = some h → AN k ob = some h ∧ ¬ ∃ i,Gs r i ∧ κ i = k:=by
  intro k h hg
  rw [hget] at hg
  split at hg
  ·cases hg
  ·rename_i hn; exact ⟨hg,hn⟩
 have hin:∀ k,Hb (Fi (fun k => decide (∃ i,Gs r i ∧ κ i = k)) ob) k → Hb ob k:=fun k ⟨h,hg⟩ => ⟨h,(hsub k h hg).1⟩
 have hset:∀ b,AW F g (Fi (fun k => decide (∃ i,Gs r i ∧ κ i = k)) ob) b → AW F g ob b:=fun b hb => Fq hin hb
 have one:∀ {i:Nat} {u:Value} {a:AV},(Gb a = true → Gs r i) → pS (AW F g ob) w' g ob (κ i) u a → pS (AW F g (Fi (fun k => decide (∃ i,Gs r i ∧ κ i = k)) ob)) w' g (Fi (fun k => decide (∃ i,Gs r i ∧ κ i = k)) ob) (κ i) u (Td a):=by
  intro i u a hf hu
  have blk:∀ {sz:Nat} {els:List AV},Gs r i → AN (κ i) ob = some ⟨sz,els⟩ → VR (AW F g (Fi (fun k => decide (∃ i,Gs r i ∧ κ i = k)) ob)) w' (.slice (some ⟨g.β (κ i),0,none⟩) els.length (g.cap (κ i))) (.sl sz els) ∧ (g.cap (κ i) = 0 → VR (AW F g (Fi (fun k => decide (∃ i,Gs r i ∧ κ i = k)) ob)) w' (.slice none 0 0) (.sl sz els)) ∧ ∀ i0 off,i0 < els.length → VR (AW F g (Fi (fun k => decide (∃ i,Gs r i ∧ κ i = k)) ob)) w' (.pointer (some ⟨g.β (κ i),i0 * sz + off,none⟩)) (.ptr sz els i0 off):=fun {sz els} hfi hg => by
   have hH:=B.home (κ i) ⟨sz,els⟩ hg
   obtain ⟨rr,hcell⟩:=hH.cell
   exact hH.sl (S':=AW F g (Fi (fun k => decide (∃ i,Gs r i ∧ κ i = k)) ob)) hcell hset fun hp c => by
    have hl:LG g ob (κ i):=⟨⟨_,hg⟩,hp⟩
    rcases c with c | ⟨k,hk,e⟩
    ·exact B.nF _ hl c
    ·obtain ⟨⟨h',hg'⟩,hp'⟩:=hk
     obtain ⟨h1,h2⟩:=hsub k h' hg'
     have:=B.inj k (κ i) ⟨⟨h',h1⟩,hp'⟩ hl e
     exact h2 ⟨i,hfi,this.symm⟩
  cases a
  case fresh sz els =>
   obtain ⟨q1,q2,_⟩:=blk (hf rfl) hu.1
   show VR _ _ _ _
   rcases hu.2 with e | ⟨e0,e⟩
   ·rw [e]; exact q1
   ·rw [e]; exact q2 e0
  case mem sz els ix =>
   obtain ⟨_,_,q3⟩:=blk (hf rfl) hu.1
   obtain ⟨_,hl1,e⟩:=hu
   have:=q3 0 0 (by omega)
   rw [Nat.zero_mul,Nat.zero_add] at this
   rw [e]; exact this
  all_goals exact VR.mono (At.refl _ _) (fun b _ c => hset b c) hu
 refine ⟨B.same,fun k h hg => (B.home k h (hsub k h hg).1).mono (At.refl _ _) (fun _ => rfl) fun b _ c => hset b c,fun k k' a b => B.inj k k' ⟨hin k a.1,a.2⟩ ⟨hin k' b.1,b.2⟩,fun k a => B.nF k ⟨hin k a.1,a.2⟩,fun k a => B.hio k ⟨hin k a.1,a.2⟩,?_,
  fun i j hi _ _ => (Oy hi).elim,fun i j hi _ _ => (Oy hi).elim,fun j hj => ?_⟩
 ·have hval:=B.val
  cases r
  case tup cs =>
   obtain ⟨vs,rfl,hn,hall⟩:=hval
   refine ⟨vs,rfl,by simpa using hn,fun j hj => ?_⟩
   have hj':j < cs.length:=by simpa using hj
   have e:(cs.map Td).getD j .any = Td (cs.getD j .any):=Be _ rfl _ _
   rw [e]
   exact one (fun hf => ⟨j,rfl,hj',hf⟩) (hall j hj')
  all_goals exact one (fun hf => ⟨rfl,hf⟩) hval
 ·obtain ⟨sz,e0,els,h1,h2,h3,h4⟩:=B.out j hj
  refine ⟨sz,e0,els,h1,h2,?_,h4⟩
  rw [hget,if_neg]
  ·exact h3
  ·rintro ⟨i,hi,e⟩; exact B.κio i j hi hj e
theorem kj {P:Program} {l:List (Nat × Ax)} {f:FuncId} {fn:CI} {vm:List Nat} (modes:List Md) (hl:∀ p,p ∈ l → AU P p.1 p.2) (hc:Af P f fn vm = true):AU P f (mkZ l fn modes):=by
 have h:=SW (Lv hl) hc modes
 unfold AU at h ⊢
 refine ⟨fun e => Bool.noConfusion e,fun F g0 w args vargs hsh hsz hfr hok => ?_⟩
 simp only [mkZ] at hok ⊢
 refine ⟨fun e => Bool.noConfusion e,((h.2 F g0 w args vargs hsh hsz hfr hok).2).mono fun e w' he => ?_⟩
 obtain ⟨v,g,ob,κ,he,B⟩:=he
 exact ⟨v,g,_,κ,he,fa B⟩
theorem mt {b:Bool} {P:Program} {f:FuncId} {C:Ax} {fu:Func} {c:Code} (hC:AU P f C) (hf:P.funcs[f]? = some fu) (hb:fu.body = some c) (hn:(fu.name == "runtime.NumGoroutine") = false)
  {args:List AV} {vargs:Array Value} {w:World} (hsz:vargs.size = args.length) (hsh:ED C.modes args = true) (hbor:args.all (fun a => !Fr a) = true) (hv:∀ j,j < args.length → VR (fun _ => False) w (vargs.getD j undef) (args.getD j .any)) (hgt:GT (fun _ => False) w) {outs:List AV}
  (hF:C.F args = ⟨true,.bool b,outs⟩):Calls P f vargs w fun e w' => e = .returned (.bool b) ∧ At (fun _ => False) w w':=by
 have hnofm:∀ j,Fr (args.getD j .any) = false:=by
  intro j
  simp only [List.all_eq_true,Bool.not_eq_true'] at hbor
  rw [List.getD_eq_getElem?_getD]
  cases hj:args[j]? with
  | none => rfl
  | some a => exact hbor a (List.mem_of_getElem? hj)
 have hob:∀ k,AN k (Bm 0 args) = none:=by
  intro k
  cases hg:AN k (Bm 0 args) with
  | none => rfl
  | some hm =>
   obtain ⟨j,_,hf⟩:=MC hg
   have:=hnofm j
   revert hf this
   generalize args.getD j .any = x
   intro hf this
   cases x <;> simp [Fs,Fr] at hf this
 have hno:∀ k,¬ Hb (Bm 0 args) k:=fun k ⟨hm,hg⟩ => by rw [hob k] at hg; cases hg
 have hfr:FR (fun _ => False) ⟨fun _ => 0,fun _ => 0⟩ w vargs (List.range args.length) [] (MU args):=by
  refine ⟨fun k hm hg => (hno k ⟨hm,hg⟩).elim,fun k _ hk => (hno k hk.1).elim,fun k hk => (hno k hk.1).elim,fun b hb => hb.elim,by simp [MU,JJ],rfl,fun j hj => ?_,fun j hj => by simp at hj,fun t ht => ?_,hgt.mono (At.refl _ _) fun b _ hb => ?_⟩
  ·have hj':j < args.length:=by simpa using hj
   have e1:(List.range args.length).getD j 0 = j:=by rw [List.getD_eq_getElem?_getD,List.getElem?_range hj']; rfl
   rw [e1]
   simp only [MU]
   rw [KL _ 0 j hj',Nat.zero_add]
   have e2:Zi j (args.getD j .any) = args.getD j .any:=by
    have:=hnofm j
    revert this
    generalize args.getD j .any = x
    intro this
    cases x <;> first | rfl | (simp [Fr] at this)
   rw [e2]
   refine ((hv j hj').mono (At.refl _ _) fun b _ hb => ?_).toSR
   rcases hb with hb | ⟨k,hk,_⟩
   ·exact hb
   ·exact hno k hk.1
  ·rcases ht with ht | ht
   ·rw [hsz]; simpa using ht
   ·simp at ht
  ·rcases hb with hb | ⟨k,hk,_⟩
   ·exact hb
   ·exact hno k hk.1
 have h:=(hC.2 _ _ w args vargs hsh hsz hfr (by rw [hF])).2
 rw [hF] at h
 unfold DX at h
 rw [Lq hf hb hn] at h
 refine Calls.mono h fun e w' he => ?_
 obtain ⟨v,g,ob,κ,rfl,B⟩:=he
 have hval:=B.val
 simp only [RV,pS] at hval
 refine ⟨?_,B.same.mono fun b _ ⟨k,hk,_⟩ => (hno k hk.1).elim⟩
 cases hval
 rfl
theorem sq {P:Program} {f:FuncId} {C:Ax} {fu:Func} {c:Code} (hC:AU P f C) (hf:P.funcs[f]? = some fu) (hb:fu.body = some c) (hn:(fu.name == "runtime.NumGoroutine") = false)
  {args:List AV} {vargs:Array Value} {w:World} (hsz:vargs.size = args.length) (hsh:ED C.modes args = true) (hbor:args.all (fun a => !Fr a) = true) (hv:∀ j,j < args.length → VR (fun _ => False) w (vargs.getD j undef) (args.getD j .any)) (hgt:GT (fun _ => False) w) {outs:List AV}
  (hF:C.F args = ⟨true,.bool true,outs⟩):Calls P f vargs w fun e w' => e = .returned (.bool true) ∧ At (fun _ => False) w w' :=
 mt hC hf hb hn hsz hsh hbor hv hgt hF
end Go.Proofs.YtfaenphcgfocnaaGreatDoor
