/- A statement: its operations one behind the other. No condition. -/
import Derived.Test.YtfaenphcgfocnaaGreatDoorEngT
namespace Go.Proofs.YtfaenphcgfocnaaGreatDoor
open Go Go.RowKit
set_option linter.unusedSimpArgs false
set_option linter.unusedVariables false
def cG (P:Program) (vm ss:List Nat) (op:Op) (a:Hc):Bool:=BB a && LF P vm ss op a
def uQ (P:Program) (vm ss:List Nat) (op:Op) (a:Hc):Bool :=
 match a with
 | .call f args => NH vm ss f args op
 | .callv f args => Sm vm ss f args op
 | .callw f args => NH vm ss f args op
 | .pick c a b => ae vm ss c a b op
 | a => cG P vm ss op a
def cr (ops:Array Oper) (vm ss:List Nat):Option (Nat × Bool) → Option (CA × Bool) → Bool
 | none,none => true
 | some (j,w),some (x,w') => w == w' && (match (ops[j]?).bind (·.dst) with
  | some t => BP vm ss (.tmp t) x
  | none => false)
 | _,_ => false
def jp (n:Nat):Option Nat → Bool
 | some d => decide (d < n)
 | none => true
def cn (P:Program) (n:Nat) (ops:Array Oper) (vm ss:List Nat) (o:Oper) (i:Jx):Option (List Nat) :=
 bif jp n o.dst && (cr ops vm ss o.guard i.guard && (match i.guard with
  | none => dG P vm ss i.dst o.op i.op
  | some _ => uQ P vm ss o.op i.op)) then Dd vm ss o.dst i.dst else none
def Kq (P:Program) (n:Nat) (ops:Array Oper) (vm:List Nat):List Nat → List Oper → List Jx → Option (List Nat)
 | ss,[],[] => some ss
 | ss,o :: os,i :: is => match cn P n ops vm ss o i with
  | some ss' => Kq P n ops vm ss' os is
  | none => none
 | _,_,_ => none
section
variable {F Iow:Nat → Prop} {w0:World} {g0:Gh} {o0:CB} {g:Gh} {w w':World} {tmps:Array Value} {ds:List Deferred} {vm ss ss':List Nat} {s:St} {P:Program} {o:Oper} {key:Nat} {T:Ht} {D:Gk}
 {K:Act → World → Prop} {Q:Exit → Act → World → Prop} {ops:Array Oper} {n:Nat} {i:Jx}
theorem nM (h:FR F g w tmps vm ss s) {j t:Nat} {x:CA} (hd:(ops[j]?).bind (·.dst) = some t) (hc:BP vm ss (.tmp t) x = true) (hok:Mx (rd s x) = true) (want:Bool) :
  (yielded ops tmps j == some want) = eZ want (rd s x):=by
 have hv:=h.src (ds:=[]) hc
 have hfit:t < tmps.size:=by
  have hm:∀ {l:List Nat} {m:Nat},l[m]? = some t → t ∈ l:=fun h => List.mem_of_getElem? h
  cases x with
  | v m => simp only [BP,beq_iff_eq] at hc; exact h.fit t (.inl (hm hc))
  | s m => simp only [BP,beq_iff_eq] at hc; exact h.fit t (.inr (hm hc))
  | c a => simp [BP] at hc
 have he:tmps[t]? = some (({ tmps:=tmps,defers:=[] }:Act).eval (.tmp t)):=by
  simp [Act.eval,Array.getD_eq_getD_getElem?,Array.getElem?_eq_getElem hfit]
 have hy:yielded ops tmps j = match ({ tmps:=tmps,defers:=[] }:Act).eval (.tmp t) with | .bool b => some b | _ => none:=by
  unfold yielded
  rw [hd]
  simp only [Option.bind_some,he]
  cases (({ tmps:=tmps,defers:=[] }:Act).eval (.tmp t)) <;> rfl
 rw [hy]
 revert hok
 generalize rd s x = a at hv
 intro hok
 cases a <;> simp only [Mx] at hok <;> try (cases hok; done)
 case bool b => rw [Lm hv]; cases b <;> cases want <;> rfl
 case opt c a =>
  cases c
  ·simp only [SR,Bool.false_eq_true,if_false] at hv
   rw [hv]; cases want <;> rfl
  ·simp only [Bool.not_true,Bool.false_or] at hok
   cases a <;> simp only [Tp] at hok <;> try (cases hok; done)
   rename_i b
   simp only [SR,if_true] at hv
   have:=Lm (ob:=s.ob) (g:=g) (hv.toSR)
   rw [this]; cases want <;> cases b <;> rfl
theorem qT (hT:JL P T) (h:FX F Iow w0 g0 o0 g w tmps vm ss s) (hnd:MQ vm) (hd:Dd vm ss o.dst D = some ss') (hfit:∀ d,o.dst = some d → d < tmps.size) {a:Hc} (hc:uQ P vm ss o.op a = true) (hnw:∀ f l,a ≠ .callw f l) (hok:(Kz s true D (CY T s true key a)).ok = true)
  (hK:∀ tmps' w' g',tmps'.size = tmps.size → FX F Iow w0 g0 o0 g' w' tmps' vm ss' (Kz s true D (CY T s true key a)) → K ⟨tmps',ds⟩ w'):o.upon P ⟨tmps,ds⟩ K Q ((execOp ({ tmps:=tmps,defers:=ds }:Act).eval o).run P w):=by
 obtain ⟨_,hm⟩:=bB hok
 obtain ⟨hmok,hmhs,hml⟩:=hm rfl
 have fin:∀ (v:Value) (w':World),At (fun _ => False) w w' → SR (AW F g s.ob) w' g s.ob v (CY T s true key a).v → K (({ tmps:=tmps,defers:=ds }:Act).put o.dst v) w':=by
  intro v w' hw hv
  rw [Ls]
  exact hK _ _ _ (IE _ _ _) (h.guardPut hnd hd hfit hw (fun _ _ => hv) hok)
 have hu:=h.toFR.unS
 have ret:∀ {m:Mk},m.hs = [] → BG (AW F g s.ob) w g s.ob key m ((execOp ({ tmps:=tmps,defers:=ds }:Act).eval o).run P w) → m.v = (CY T s true key a).v → o.upon P ⟨tmps,ds⟩ K Q ((execOp ({ tmps:=tmps,defers:=ds }:Act).eval o).run P w):=by
  intro m hh hp hv
  obtain ⟨v,w',hr,hw,hcase⟩:=hp
  rw [hr,Oper.upon_value]
  rcases hcase with ⟨_,hs⟩ | ⟨k,h',b,cap,e,_⟩
  ·exact fin v w' hw (hv ▸ hs)
  ·rw [hh] at e; cases e
 have retF:∀ {m:Mk},BG (AW F g s.ob) w g s.ob key m ((execOp ({ tmps:=tmps,defers:=ds }:Act).eval o).run P w) → (OB m).v = (CY T s true key a).v → o.upon P ⟨tmps,ds⟩ K Q ((execOp ({ tmps:=tmps,defers:=ds }:Act).eval o).run P w):=by
  intro m hp hv
  obtain ⟨v,w',hr,hw,hs⟩:=BG.frz h.toFR hp
  rw [hr,Oper.upon_value]
  exact fin v w' hw (hv ▸ hs)
 have still:BB a = true → LF P vm ss o.op a = true → CY T s true key a = Ej (BB a && (BK a).all fun x => CO true (rd s x)) (OB (AS (Rv s) s.ob key a)) → o.upon P ⟨tmps,ds⟩ K Q ((execOp ({ tmps:=tmps,defers:=ds }:Act).eval o).run P w):=by
  intro hg hc he
  rw [he] at hmok hmhs
  simp only [Ej,Bool.and_eq_true,List.all_eq_true] at hmok hmhs
  obtain ⟨⟨_,hall⟩,hsok⟩:=hmok
  have hcg:AS (Rv s) s.ob key a = AS (rd (unS s)) s.ob key a:=FN hg fun x hx => (XF (hall x hx)).symm
  rw [hcg] at hsok
  exact retF (m:=AS (rd (unS s)) s.ob key a) (PR (ds:=ds) (key:=key) hu hc hsok) (by rw [he,hcg]; rfl)
 have optall:∀ {as:List CA},(as.all fun x => CO true (rd s x)) = true → as.map (Rv s) = as.map (rd (unS s)):=fun hall => by
  simp only [List.all_eq_true] at hall
  exact List.map_congr_left fun x hx => (XF (hall x hx)).symm
 cases a
 case pick c x y =>
  simp only [uQ] at hc
  simp only [CY,Ej,Bool.and_eq_true] at hmok hmhs
  have hcv:SR (AW F g s.ob) w g s.ob (({ tmps:=tmps,defers:=ds }:Act).eval (match o.op with | .pick x _ _ => x | _ => .const undef)) (Rv s c):=by
   rw [← XF hmok.1]
   unfold ae at hc
   split at hc
   ·rename_i p q z he
    simp only [Bool.and_eq_true] at hc
    rw [he]
    exact hu.src hc.1
   ·cases hc
  exact ret (m:=KH true (rd s x) (rd s y) (Rv s c)) hmhs (py (ds:=ds) (key:=key) h.toFR hc hcv hmok.2) rfl
 case call f args =>
  simp only [uQ] at hc
  simp only [CY,Ej,Bool.and_eq_true] at hmok hmhs hml fin
  unfold NH at hc
  split at hc
  ·rename_i f' xs tys he
   simp only [Bool.and_eq_true,beq_iff_eq] at hc
   obtain ⟨rfl,hc⟩:=hc
   rw [optall (by simpa [BK] using hmok.1)] at hmok hmhs hml fin
   obtain ⟨e1,e2⟩:=II (ds:=ds) hu hc
   have hcr:=Gu (P:=P) (w:=w) (o:=o) (ρ:=({ tmps:=tmps,defers:=ds }:Act).eval) (f:=f') (v1:=#[]) (v2:=#[]) rfl he
   rw [Array.empty_append,Array.append_empty] at hcr
   rw [hcr]
   have:=KD (s:=unS s) (c:=⟨true,f',args.map (rd (unS s))⟩) hT h.unS e1 e2 hmok.2 hml hmhs
   refine Gw this (fun v w' hR => ?_) (fun c w' hR => ?_) (fun w' hR => ?_)
   ·obtain ⟨v',e,hw,hv⟩:=hR; cases e; exact fin _ _ hw hv
   ·obtain ⟨v',e,_⟩:=hR; cases e
   ·obtain ⟨v',e,_⟩:=hR; cases e
  ·cases hc
 case callv f args =>
  simp only [uQ] at hc
  simp only [CY,Ej,Bool.and_eq_true] at hmok hmhs hml fin
  unfold Sm at hc
  split at hc
  ·rename_i y xs tys he
   simp only [Bool.and_eq_true] at hc
   obtain ⟨hcf,hc⟩:=hc
   have hall:CO true (rd s f) = true ∧ (args.all fun x => CO true (rd s x)) = true:=by
    simpa [BK] using hmok.1
   rw [optall hall.2,← XF hall.1] at hmok hmhs hml fin
   obtain ⟨e1,e2⟩:=II (ds:=ds) hu hc
   have hvf:=hu.src (ds:=ds) hcf
   have hcok:(Hr (args.map (rd (unS s))) (rd (unS s) f)).ok = true:=by
    have:=hmok.2
    simp only [CJ,Ej,Bool.and_eq_true] at this
    exact this.1
   obtain ⟨fid,a1,a2,ea,ecal⟩:=NE hcok
   rw [ea] at hvf
   obtain ⟨v1,v2,ev,n1,n2,h1,h2⟩:=hvf
   rw [Gu (P:=P) (w:=w) (ρ:=({ tmps:=tmps,defers:=ds }:Act).eval) ev he]
   rw [ecal] at hmok hmhs hml fin
   obtain ⟨q1,q2⟩:=PB (w:=w) (g:=g) n1 e1 n2 (fun j hj => (h1 j hj).toSR) e2 (fun j hj => (h2 j hj).toSR)
   have:=KD (s:=unS s) (c:=⟨true,fid,a1 ++ args.map (rd (unS s)) ++ a2⟩) hT h.unS q1 q2 hmok.2 hml hmhs
   refine Gw this (fun v w' hR => ?_) (fun c w' hR => ?_) (fun w' hR => ?_)
   ·obtain ⟨v',e,hw,hv⟩:=hR; cases e; exact fin _ _ hw hv
   ·obtain ⟨v',e,_⟩:=hR; cases e
   ·obtain ⟨v',e,_⟩:=hR; cases e
  ·cases hc
 case callw f l => exact absurd rfl (hnw f l)
 all_goals
  have hc2:cG P vm ss o.op _ = true:=hc
  unfold cG at hc2
  rw [Bool.and_eq_true] at hc2
  exact still hc2.1 hc2.2 (by first | rfl | (exact absurd hc2.1 Bool.false_ne_true))
theorem qS (hT:JL P T) (h:FX F Iow w0 g0 o0 g w tmps vm ss s) (hnd:MQ vm) (hd:Dd vm ss o.dst D = some ss') (hfit:∀ d,o.dst = some d → d < tmps.size) {f:Nat} {args:List CA} (hc:NH vm ss f args o.op = true)
  (hok:(Hy T s key D ⟨args.all fun x => CO true (rd s x),f,args.map (Rv s)⟩).ok = true)
  (hK:∀ tmps' w' g',tmps'.size = tmps.size → FX F Iow w0 g0 o0 g' w' tmps' vm ss' (Hy T s key D ⟨args.all fun x => CO true (rd s x),f,args.map (Rv s)⟩) → K ⟨tmps',ds⟩ w'):o.upon P ⟨tmps,ds⟩ K Q ((execOp ({ tmps:=tmps,defers:=ds }:Act).eval o).run P w):=by
 have hall:=(LZ hok).2
 have hall':(args.all fun x => CO true (rd s x)) = true:=hall
 have e0:args.map (Rv s) = args.map (rd (unS s)):=by
  simp only [List.all_eq_true] at hall'
  exact List.map_congr_left fun x hx => (XF (hall' x hx)).symm
 unfold NH at hc
 split at hc
 ·rename_i f' xs tys he
  simp only [Bool.and_eq_true,beq_iff_eq] at hc
  obtain ⟨rfl,hc⟩:=hc
  obtain ⟨e1,e2⟩:=II (ds:=ds) h.toFR.unS hc
  rw [← e0] at e1 e2
  have hcr:=Gu (P:=P) (w:=w) (o:=o) (ρ:=({ tmps:=tmps,defers:=ds }:Act).eval) (f:=f') (v1:=#[]) (v2:=#[]) rfl he
  rw [Array.empty_append,Array.append_empty] at hcr
  rw [hcr]
  exact SB hT h hnd hd hfit (c:=⟨args.all fun x => CO true (rd s x),f',args.map (Rv s)⟩) e1 e2 hok hK
 ·cases hc
theorem eR (hT:JL P T) (h:FX F Iow w0 g0 o0 g w tmps vm ss s) (hnd:MQ vm) (hn:tmps.size = n) (hc:cn P n ops vm ss o i = some ss') (hok:(CS T s i).ok = true)
  (hK:∀ tmps' w' g',tmps'.size = n → FX F Iow w0 g0 o0 g' w' tmps' vm ss' (CS T s i) → K ⟨tmps',ds⟩ w') :
  if Region.wanted o (yielded ops (⟨tmps,ds⟩:Act).tmps) then o.wp P ⟨tmps,ds⟩ w K Q else K ((⟨tmps,ds⟩:Act).put o.dst undef) w:=by
 have hcc:∀ {c:Bool} {x:Option (List Nat)},(bif c then x else none) = some ss' → c = true ∧ x = some ss':=by intro c x; cases c <;> simp
 unfold cn at hc
 obtain ⟨hb,hc⟩:=hcc hc
 ·simp only [Bool.and_eq_true] at hb
  obtain ⟨hb1,hb2,hb3⟩:=hb
  have hfit:∀ d,o.dst = some d → d < tmps.size:=fun d e => by rw [e] at hb1; simpa [jp,hn] using hb1
  cases hg:i.guard with
  | none =>
   rw [hg] at hb2 hb3
   have hog:o.guard = none:=by
    revert hb2
    cases o.guard with
    | none => intro _; rfl
    | some q => intro hb2; simp [cr] at hb2
   rw [if_pos (by simp [Region.wanted,hog])]
   simp only [CS,Sb,hg] at hok hK
   exact bE hT h hnd hc hfit hb3 hok fun tmps' w' g' e hfx => hK tmps' w' g' (by rw [e,hn]) hfx
  | some gd =>
   obtain ⟨x,want⟩:=gd
   rw [hg] at hb2 hb3
   simp only [CS,Sb,hg] at hok hK
   cases hog:o.guard with
   | none => rw [hog] at hb2; simp [cr] at hb2
   | some q =>
    obtain ⟨j,want'⟩:=q
    rw [hog] at hb2
    simp only [cr,Bool.and_eq_true,beq_iff_eq] at hb2
    obtain ⟨rfl,hb2⟩:=hb2
    split at hb2
    ·rename_i t ht
     have h':=h.setOk (s.ok && Mx (rd s x))
     have hgo:Mx (rd s x) = true:=by
      have:=eS hok
      simp at this; exact this.2
     have hw:Region.wanted o (yielded ops tmps) = eZ want' (rd s x):=by
      unfold Region.wanted
      rw [hog]
      exact nM h.toFR ht hb2 hgo want'
     have hw':Region.wanted o (yielded ops (⟨tmps,ds⟩:Act).tmps) = eZ want' (rd s x):=hw
     rw [hw']
     cases hv:eZ want' (rd s x) with
     | true =>
      rw [hv] at hok hK
      rw [if_pos rfl]
      by_cases hw:∃ f l,i.op = .callw f l
      ·obtain ⟨f,l,ew⟩:=hw
       rw [ew] at hok hK hb3
       simp only [Jp,iI,if_true] at hok hK
       exact qS hT h' hnd hc hfit hb3 hok fun tmps' w' g' e hfx => hK tmps' w' g' (by rw [e,hn]) hfx
      ·have hnw:∀ f l,i.op ≠ .callw f l:=fun f l e => hw ⟨f,l,e⟩
       have e1:Jp T { s with ok:=s.ok && Mx (rd s x) } i.key i.dst true i.op = Kz { s with ok:=s.ok && Mx (rd s x) } true i.dst (CY T { s with ok:=s.ok && Mx (rd s x) } true i.key i.op):=by
        unfold Jp
        split
        ·rename_i f l e; exact absurd e (hnw f l)
        ·rfl
       rw [e1] at hok hK
       exact qT hT h' hnd hc hfit hb3 hnw hok fun tmps' w' g' e hfx => hK tmps' w' g' (by rw [e,hn]) hfx
     | false =>
      rw [hv] at hok hK
      rw [if_neg (by simp),Ls]
      have e1:∃ m,Jp T { s with ok:=s.ok && Mx (rd s x) } i.key i.dst false i.op = Kz { s with ok:=s.ok && Mx (rd s x) } false i.dst m:=by
       unfold Jp
       split
       ·exact ⟨Cb .any,by simp [iI]⟩
       ·exact ⟨_,rfl⟩
      obtain ⟨m,e1⟩:=e1
      rw [e1] at hK
      exact hK _ _ _ (by rw [IE,hn]) (h'.guardSkip hnd hc hfit)
    ·exact absurd hb2 Bool.false_ne_true
theorem SV (hT:JL P T) (hnd:MQ vm):∀ (os:List Oper) (is:List Jx) {ss:List Nat} {s:St} {g:Gh} {w:World} {tmps:Array Value},FX F Iow w0 g0 o0 g w tmps vm ss s → tmps.size = n → Kq P n ops vm ss os is = some ss' → (EG T is s).ok = true →
  (∀ tmps' w' g',tmps'.size = n → FX F Iow w0 g0 o0 g' w' tmps' vm ss' (EG T is s) → Q .normal ⟨tmps',ds⟩ w') → wpList P ops Q os ⟨tmps,ds⟩ w
 | [],[],ss,s,g,w,tmps,h,hn,hc,hok,hK => by
  simp only [Kq,Option.some.injEq] at hc
  subst hc
  exact hK _ _ _ hn h
 | [],_ :: _,_,_,_,_,_,_,_,hc,_,_ => by simp [Kq] at hc
 | _ :: _,[],_,_,_,_,_,_,_,hc,_,_ => by simp [Kq] at hc
 | o :: os,i :: is,ss,s,g,w,tmps,h,hn,hc,hok,hK => by
  simp only [Kq] at hc
  split at hc
  ·rename_i ss1 hc1
   refine wpList_step fun K hKK => ?_
   exact eR hT h hnd hn hc1 (KB is hok) fun tmps' w' g' e hfx => hKK _ _ (SV hT hnd os is hfx e hc hok hK)
  ·cases hc
end
end Go.Proofs.YtfaenphcgfocnaaGreatDoor
