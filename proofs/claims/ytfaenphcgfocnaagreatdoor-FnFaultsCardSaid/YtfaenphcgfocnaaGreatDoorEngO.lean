/- The arguments of a call read as the callee is told. No condition. -/
import Derived.Test.YtfaenphcgfocnaaGreatDoorEngL
namespace Go.Proofs.YtfaenphcgfocnaaGreatDoor
open Go Go.RowKit
set_option linter.unusedSimpArgs false
set_option linter.unusedVariables false
def cp (vm ss:List Nat) (sz:Nat):Op → Bool
 | .move y => BP vm ss y (.c .nilsl) && decide (1 ≤ sz)
 | .assign y => BP vm ss y (.c .nilsl) && decide (1 ≤ sz)
 | _ => false
def LF (P:Program) (vm ss:List Nat) (op:Op):Hc → Bool
 | .mov x => ACv vm ss x op
 | .newnil sz => cp vm ss sz op
 | .alloc z => ig P z op
 | .box x => ADA vm ss x op
 | .build z ps => ie P vm ss z ps op
 | .mkSl sz z n ps => uR P vm ss sz z n ps op
 | .load agg sz p => uU P vm ss agg sz p op
 | .nilck x => ib vm ss x op
 | .bin bl u x y => ADB P vm ss bl u x y op
 | .eqA neg ks x y => ACz P vm ss neg ks x y op
 | .un u x => cUn vm ss u x op
 | .conv k x => uV P vm ss k x op
 | .b2s x => ADC P vm ss x op
 | .s2b x => ACu P vm ss x op
 | .mkFn f fi ca => uS vm ss f fi ca op
 | .make sz bytes z l c => uT P vm ss sz bytes z l c op && decide (1 ≤ sz)
 | .slice sz x lo hi => ia P vm ss sz x lo hi op
 | .fldAddr off p => YN P vm ss off p op
 | .fld agg off sz x => ACx P vm ss agg off sz x op
 | .ixAddr sz x i => cq P vm ss sz x i op
 | .ixStr x i => ic P vm ss x i op
 | .ext x i => ACy vm ss x i op
 | .len st x => ACw P vm ss st x op
 | .minmax mx xs => cMM vm ss mx xs op
 | .pick _ _ _ => false
 | .store _ _ _ => false
 | .call _ _ => false
 | .callp _ _ => false
 | .callv _ _ => false
 | .app _ _ _ _ _ => false
 | .pur _ => false
 | .callw _ _ => false
 | .flat _ => false
 | .trunc _ _ _ => false
 | .movz _ => false
 | .safe _ _ => false
section
variable {F Iow:Nat → Prop} {w0:World} {g0:Gh} {o0:CB} {g:Gh} {w w':World} {tmps:Array Value} {ds:List Deferred} {vm ss ss':List Nat} {s:St} {P:Program} {o:Oper} {key:Nat}
theorem pz (h:FR F g w tmps vm ss s) {sz:Nat} (hc:cp vm ss sz o.op = true) :
  BG (AW F g s.ob) w g s.ob key ⟨true,.own (Ba key),[(Ba key,⟨sz,[]⟩)]⟩ ((execOp ({ tmps:=tmps,defers:=ds }:Act).eval o).run P w):=by
 have main:∀ y,BP vm ss y (.c .nilsl) = true → 1 ≤ sz → (execOp ({ tmps:=tmps,defers:=ds }:Act).eval o).run P w = .ok (.value (({ tmps:=tmps,defers:=ds }:Act).eval y)) w →
   BG (AW F g s.ob) w g s.ob key ⟨true,.own (Ba key),[(Ba key,⟨sz,[]⟩)]⟩ ((execOp ({ tmps:=tmps,defers:=ds }:Act).eval o).run P w):=by
  intro y hy hp hr
  have hev:=OQ (h.src (ds:=ds) hy)
  refine ⟨_,w,hr,At.refl _ _,.inr ⟨Ba key,⟨sz,[]⟩,w.heap.size,0,rfl,by simp [Ba],Nat.le_refl _,fun S' hS => ?_,.inl ⟨rfl,.inr ⟨rfl,hev⟩⟩⟩⟩
  exact ⟨hp,Nat.le_refl _,fun i hi => by simp at hi,fun hp => absurd hp (Nat.lt_irrefl _)⟩
 unfold cp at hc
 split at hc
 ·rename_i y he
  simp only [Bool.and_eq_true,decide_eq_true_eq] at hc
  exact main y hc.1 hc.2 (by simp [execOp,he])
 ·rename_i y he
  simp only [Bool.and_eq_true,decide_eq_true_eq] at hc
  exact main y hc.1 hc.2 (by simp [execOp,he])
 ·cases hc
theorem PR (h:FR F g w tmps vm ss s) {a:Hc} (hc:LF P vm ss o.op a = true) (hok:(AS (rd s) s.ob key a).ok = true) :
  BG (AW F g s.ob) w g s.ob key (AS (rd s) s.ob key a) ((execOp ({ tmps:=tmps,defers:=ds }:Act).eval o).run P w):=by
 cases a <;> simp only [LF] at hc <;> simp only [AS] at hok ⊢ <;> try (cases hc; done)
 case mov => exact AFK h hc
 case newnil => exact pz h hc
 case alloc => exact vr h hc hok
 case box => exact AFP h hc hok
 case build => exact vq h hc hok
 case mkSl => exact AAE h hc hok
 case load => exact AAH h hc hok
 case nilck => exact vk h hc hok
 case bin => exact AFQ h hc hok
 case eqA => exact AFO h hc hok
 case un => exact s_un h hc hok
 case conv => exact AAL h hc hok
 case b2s => exact AFR h hc hok
 case s2b => exact AFJ h hc hok
 case mkFn => exact AAF h hc hok
 case make =>
  simp only [Bool.and_eq_true,decide_eq_true_eq] at hc
  exact AAG h hc.1 hok hc.2
 case slice => exact vj h hc hok
 case fldAddr => exact kU h hc hok
 case fld agg off sz x =>
  simp only [Ej,Bool.and_eq_true] at hok
  obtain ⟨v,w',hr,hw,hcase⟩:=AFM (key:=key) (ds:=ds) h hc hok.2 hok.1
  exact ⟨v,w',hr,hw,hcase⟩
 case ixAddr => exact qA h hc hok
 case ixStr => exact vn h hc hok
 case ext => exact AFN h hc hok
 case len => exact AFL h hc hok
 case minmax => exact s_mm h hc hok
def un1:AV → AV
 | .opt true a => a
 | .opt false _ => .any
 | .int k n => .int k n
 | .bool b => .bool b
 | .str l => .str l
 | .cv v => .cv v
 | .agg cs => .agg cs
 | .tup cs => .tup cs
 | .sl sz els => .sl sz els
 | .nilsl => .nilsl
 | .ptr sz els i off => .ptr sz els i off
 | .fn f a b => .fn f a b
 | .own k => .own k
 | .ref k i off => .ref k i off
 | .fresh sz els => .fresh sz els
 | .mem sz els i => .mem sz els i
 | .any => .any
theorem SR.un1 {S:Nat → Prop} {ob:CB} {v:Value} {a:AV} (h:SR S w g ob v a):SR S w g ob v (un1 a):=by
 cases a <;> try exact h
 rename_i b a
 cases b
 ·exact SR.any
 ·simp only [SR,if_true] at h; exact h.toSR
def unS (s:St):St:={ s with vs:=s.vs.map un1,st:=s.st.map un1 }
theorem FR.unS (h:FR F g w tmps vm ss s):FR F g w tmps vm ss (unS s) :=
 ⟨h.home,h.inj,h.nF,h.fb,by simpa [Go.Proofs.YtfaenphcgfocnaaGreatDoor.unS] using h.vl,by simpa [Go.Proofs.YtfaenphcgfocnaaGreatDoor.unS] using h.sl,
  fun i hi => by simp only [Go.Proofs.YtfaenphcgfocnaaGreatDoor.unS]; rw [Be un1 rfl]; exact (h.vs i hi).un1,
  fun i hi => by simp only [Go.Proofs.YtfaenphcgfocnaaGreatDoor.unS]; rw [Be un1 rfl]; exact (h.st i hi).un1,h.fit,h.tab⟩
theorem Yz {a:AV} (h:CO true a = true):un1 a = Gc a:=by
 cases a <;> try rfl
 rename_i b a
 simp only [CO,Bool.not_true,Bool.false_or] at h
 subst h; rfl
theorem XF {x:CA} (h:CO true (rd s x) = true):rd (unS s) x = Rv s x:=by
 cases x
 case c => rfl
 all_goals
  simp only [rd,unS,Rv] at h ⊢
  rw [Be un1 rfl]
  exact Yz h
theorem FN {r r':CA → AV} {ob:CB} {d:Nat} {a:Hc} (hg:BB a = true) (h:∀ x,x ∈ BK a → r x = r' x):AS r ob d a = AS r' ob d a:=by
 cases a <;> simp only [BB] at hg <;> (try (cases hg; done)) <;> simp only [BK] at h <;> simp only [AS]
 case slice sz x lo hi =>
  have e1:lo.map r = lo.map r':=by cases lo <;> simp_all
  have e2:hi.map r = hi.map r':=by cases hi <;> simp_all
  rw [e1,e2,h x (by simp)]
 case minmax mx xs => rw [List.map_congr_left h]
 case build z ps =>
  have e:(ps.map fun p => (p.1,p.2.1,r p.2.2)) = ps.map fun p => (p.1,p.2.1,r' p.2.2):=List.map_congr_left fun p hp => by rw [h _ (List.mem_map.2 ⟨p,hp,rfl⟩)]
  rw [e]
 case mkSl sz z n ps =>
  have e:(ps.map fun p => (p.1,r p.2)) = ps.map fun p => (p.1,r' p.2):=List.map_congr_left fun p hp => by rw [h _ (List.mem_map.2 ⟨p,hp,rfl⟩)]
  rw [e]
 all_goals simp_all
theorem BG.frz (h:FR F g w tmps vm ss s) {m:Mk} {r:Result Next} (hp:BG (AW F g s.ob) w g s.ob key m r) :
  ∃ v w',r = .ok (.value v) w' ∧ At (fun _ => False) w w' ∧ SR (AW F g s.ob) w' g s.ob v (OB m).v:=by
 obtain ⟨v,w',hr,hw,hcase⟩:=hp
 refine ⟨v,w',hr,hw,?_⟩
 rcases hcase with ⟨h0,hs⟩ | ⟨k,h',b,cap,e,_,hb,hH,hv⟩
 ·simp only [OB,h0,tv]; exact hs
 ·simp only [OB,e,tv]
  have hh:=hH (AW F g s.ob) fun c hc => .inl hc
  obtain ⟨rr,hcell⟩:=hh.cell
  have hn:0 < cap → ¬ AW F g s.ob b:=fun _ c => by have:=h.setLt c; omega
  obtain ⟨q1,q2,q3⟩:=hh.sl hcell (fun _ c => c) hn
  rcases hv with ⟨e1,e2⟩ | ⟨e1,e2,e3⟩
  ·rw [e1]; simp only [nT]
   rcases e2 with e2 | ⟨e2,e4⟩
   ·rw [e2]; exact q1.toSR
   ·rw [e4]; exact (q2 e2).toSR
  ·rw [e1,e3]; simp only [nT]
   have:=q3 0 0 e2
   rw [Nat.zero_mul,Nat.zero_add] at this
   exact this.toSR
theorem SR.lone {S:Nat → Prop} {ob:CB} {v:Value} {a:AV} (h:SR S w g ob v a) (hl:a.lone = true):SR S w g ob v (.opt true a):=by
 simp only [SR,if_true]
 cases a
 case fn f fi ca =>
  have hat:(AV.fn f fi ca).atoms = true:=by simpa [AV.atoms,AV.cells,AV.atom,AV.lone] using hl
  exact h.atoms hat
 all_goals first | exact h | (simp [AV.lone] at hl)
theorem FX.guardPut (h:FX F Iow w0 g0 o0 g w tmps vm ss s) (hnd:MQ vm) {dst:Option Nat} {D:Gk} (hd:Dd vm ss dst D = some ss') (hfit:∀ d,dst = some d → d < tmps.size) {m:Mk} {v:Value}
  (hw:At (fun _ => False) w w') (hv:m.ok = true → m.hs = [] → SR (AW F g s.ob) w' g s.ob v m.v) (hok:(Kz s true D m).ok = true) :
  FX F Iow w0 g0 o0 g w' (Fz tmps dst v) vm ss' (Kz s true D m):=by
 have hm:m.ok = true ∧ m.hs = [] ∧ m.v.lone = true:=by
  unfold Kz at hok
  cases D <;> simpa [BE] using (by simpa [BE] using hok:_ ∧ _).2
 have h1:=(h.toFR.grow hw).put hnd hd hfit (!true || (m.ok && (m.hs.isEmpty && m.v.lone))) (v:=v) (a:=.opt true m.v) (fun _ => (hv hm.1 hm.2.1).lone hm.2.2)
 have hob:(Kz s true D m).ob = s.ob:=by cases D <;> rfl
 exact FX.mk' (w:=w) h1 h.same (hw.mono fun _ _ c => c.elim) (fun k hk => h.hio k (by rw [hob] at hk; exact hk)) h.fio (by rw [hob]; exact h.par)
theorem FX.guardSkip (h:FX F Iow w0 g0 o0 g w tmps vm ss s) (hnd:MQ vm) {dst:Option Nat} {D:Gk} (hd:Dd vm ss dst D = some ss') (hfit:∀ d,dst = some d → d < tmps.size) {m:Mk} :
  FX F Iow w0 g0 o0 g w (Fz tmps dst undef) vm ss' (Kz s false D m):=by
 have h1:=h.toFR.put hnd hd hfit (!false || (m.ok && (m.hs.isEmpty && m.v.lone))) (v:=undef) (a:=.opt false m.v) (fun _ => by simp [SR])
 have hob:(Kz s false D m).ob = s.ob:=by cases D <;> rfl
 exact FX.mk' (w:=w) h1 h.same (At.refl _ _) (fun k hk => h.hio k (by rw [hob] at hk; exact hk)) h.fio (by rw [hob]; exact h.par)
def ae (vm ss:List Nat) (c a b:CA):Op → Bool
 | .pick x y z => BP vm ss x c && (BP vm ss y a && BP vm ss z b)
 | _ => false
theorem gW (c:Bool) (x y:AV):XK c x y = .any ∨ XK c x y = (bif c then x else y):=by
 unfold XK
 split
 ·right; cases c <;> rfl
 ·rename_i k p j q
  by_cases e:k = j
  ·subst e
   right
   simp only [beq_self_eq_true,cond_true]
   cases c <;> rfl
  ·have:(k == j) = false:=by simpa using e
   simp only [this,cond_false]
   exact .inl trivial
 ·right; cases c <;> rfl
 ·exact .inr rfl
theorem wD {S:Nat → Prop} {ob:CB} {v u:Value} {x y:AV} (c:Bool) (hx:c = true → SR S w g ob v x) (hy:c = false → SR S w g ob u y):SR S w g ob (if c = true then v else u) (XK c x y):=by
 rcases gW c x y with e | e
 ·rw [e]; exact SR.any
 ·rw [e]
  cases c
  ·exact hy rfl
  ·exact hx rfl
theorem py (h:FR F g w tmps vm ss s) {c a b:CA} (hc:ae vm ss c a b o.op = true) {ac:AV} (hcv:SR (AW F g s.ob) w g s.ob (({ tmps:=tmps,defers:=ds }:Act).eval (match o.op with | .pick x _ _ => x | _ => .const undef)) ac) (hok:(KH true (rd s a) (rd s b) ac).ok = true) :
  BG (AW F g s.ob) w g s.ob key (KH true (rd s a) (rd s b) ac) ((execOp ({ tmps:=tmps,defers:=ds }:Act).eval o).run P w):=by
 unfold ae at hc
 split at hc
 ·rename_i x y z he
  simp only [Bool.and_eq_true] at hc
  obtain ⟨h1,h2,h3⟩:=hc
  rw [he] at hcv
  have hva:=h.src (ds:=ds) h2
  have hvb:=h.src (ds:=ds) h3
  cases ac <;> simp only [KH,bad] at hok <;> try (cases hok; done)
  rename_i cb
  have hce:=Lm hcv
  simp only [KH,Dz,Bool.true_and,Bool.and_eq_true] at hok ⊢
  have un:∀ {v:Value} {q:AV},SR (AW F g s.ob) w g s.ob v q → CO true q = true → SR (AW F g s.ob) w g s.ob v (Gc q):=fun hs ho => by
   rw [← Yz ho]; exact hs.un1
  refine .val (v:=if cb = true then ({ tmps:=tmps,defers:=ds }:Act).eval y else ({ tmps:=tmps,defers:=ds }:Act).eval z) (by simp only [] at hce; simp [execOp,he,hce,asBool]) rfl (wD cb (fun e => ?_) (fun e => ?_))
  ·subst e; exact un hva hok.1
  ·subst e; exact un hvb hok.2
 ·cases hc
end
open Go Go.RowKit
set_option linter.unusedSimpArgs false
set_option linter.unusedVariables false
def MU (args:List AV):St:={ vs:=Jo 0 args,st:=[],ob:=Bm 0 args,ok:=true }
def pS (S:Nat → Prop) (w:World) (g:Gh) (ob:CB) (k:Nat) (v:Value):AV → Prop
 | .fresh sz els => AN k ob = some ⟨sz,els⟩ ∧ (v = .slice (some ⟨g.β k,0,none⟩) els.length (g.cap k) ∨ (g.cap k = 0 ∧ v = .slice none 0 0))
 | .mem sz els _ => AN k ob = some ⟨sz,els⟩ ∧ (els.length = 1 ∧ v = .pointer (some ⟨g.β k,0,none⟩))
 | a => VR S w v a
def RV (S:Nat → Prop) (w:World) (g:Gh) (ob:CB) (κ:Nat → Nat) (v:Value):AV → Prop
 | .tup as => ∃ vs,v = .tuple vs ∧ vs.size = as.length ∧ ∀ j,j < as.length → pS S w g ob (κ (j + 1)) (vs.getD j undef) (as.getD j .any)
 | a => pS S w g ob (κ 0) v a
def Gb:AV → Bool
 | .fresh _ _ => true
 | .mem _ _ _ => true
 | _ => false
def Gs (r:AV) (i:Nat):Prop :=
 match r with
 | .tup as => ∃ j,i = j + 1 ∧ j < as.length ∧ Gb (as.getD j .any) = true
 | a => i = 0 ∧ Gb a = true
def GQ:AV → Bool
 | .int _ _ => true
 | .bool _ => true
 | .str _ => true
 | _ => false
def jn (a:AV):Bool:=a.cells.all GQ
def Fu:AV → Bool
 | .fresh _ els => els.all jn
 | .mem _ els _ => els.all jn
 | a => GQ a
def Fo:AV → Bool
 | .tup as => as.all Fu
 | a => Fu a
structure Yh (F:Nat → Prop) (g0:Gh) (args:List AV) (modes:List Md) (w:World) (v:Value) (w':World) (r:AV) (outs:List AV) (g:Gh) (ob:CB) (κ:Nat → Nat):Prop where
 same:At (fun b => ∃ k,LG g0 (Bm 0 args) k ∧ g0.β k = b) w w'
 home:∀ k h,AN k ob = some h → GJ (AW F g ob) w' (g.β k) (g.cap k) h.sz h.els
 inj:∀ k k',LG g ob k → LG g ob k' → g.β k = g.β k' → k = k'
 nF:∀ k,LG g ob k → ¬ F (g.β k)
 hio:∀ k,LG g ob k → w.heap.size ≤ g.β k ∨ ∃ k',LG g0 (Bm 0 args) k' ∧ g0.β k' = g.β k
 val:RV (AW F g ob) w' g ob κ v r
 κinj:∀ i j,Gs r i → Gs r j → κ i = κ j → i = j
 κio:∀ i j,Gs r i → modes[j]? = some .io → κ i ≠ Aa j
 out:∀ j,modes[j]? = some .io → ∃ sz e0 els,((args.getD j .any = .fresh sz e0 ∧ outs.getD j .any = .fresh sz els) ∨ (∃ i i',args.getD j .any = .mem sz e0 i ∧ outs.getD j .any = .mem sz els i')) ∧
  els.length = e0.length ∧ AN (Aa j) ob = some ⟨sz,els⟩ ∧ g.β (Aa j) = g0.β (Aa j) ∧ g.cap (Aa j) = g0.cap (Aa j)
def DX (P:Program) (f:FuncId) (args:Array Value) (w:World) (R:Ending → World → Prop):Prop :=
 match (callFunc f args).run P w with
 | .ok (.value v) w' => R (.returned v) w'
 | .ok (.enter f' args') w' => Calls P f' args' w' R
 | _ => False
def wA (ms:List Md):Bool:=ms.all fun m => !(m == .io)
def AU (P:Program) (f:FuncId) (C:Ax):Prop :=
 (C.flat = true → wA C.modes = true) ∧
 ∀ (F:Nat → Prop) (g0:Gh) (w:World) (args:List AV) (vargs:Array Value),ED C.modes args = true → vargs.size = args.length →
  FR F g0 w vargs (List.range args.length) [] (MU args) → (C.F args).ok = true →
  (C.flat = true → Fo (C.F args).r = true) ∧
  DX P f vargs w fun e w' => ∃ v g ob κ,e = .returned v ∧ Yh F g0 args C.modes w v w' (C.F args).r (C.F args).outs g ob κ
theorem eg {S S':Nat → Prop} {w w':World} {v:Value} {a:AV} (hf:GQ a = true) (h:VR S w v a):VR S' w' v a:=by
 cases a <;> simp [GQ] at hf <;> cases h <;> constructor
def Fs:AV → Option Hm
 | .fresh sz els => some ⟨sz,els⟩
 | .mem sz els _ => some ⟨sz,els⟩
 | _ => none
theorem Ov (k:Nat):∀ (args:List AV) (i:Nat),AN k (Bm i args) = if k % 32 = 31 ∧ i ≤ k / 32 then Fs (args.getD (k / 32 - i) .any) else none
 | [],i => by simp [Bm,AN,Fs]
 | a :: r,i => by
  have ih:=Ov k r (i + 1)
  have step:∀ h:Hm,AN k ((Aa i,h) :: Bm (i + 1) r) = if k % 32 = 31 ∧ i ≤ k / 32 then (if k / 32 = i then some h else Fs ((a :: r).getD (k / 32 - i) .any)) else none:=by
   intro h
   simp only [AN,AO,beq_iff_eq,ih]
   by_cases e:Aa i = k
   ·subst e
    have h1:(32 * i + 31) % 32 = 31:=by omega
    have h2:(32 * i + 31) / 32 = i:=by omega
    simp [Aa,h1,h2]
   ·rw [if_neg e]
    by_cases e1:k % 32 = 31
    ·have hne:k / 32 ≠ i:=fun e2 => e (by unfold Aa; omega)
     by_cases e3:i ≤ k / 32
     ·rw [if_pos ⟨e1,by omega⟩,if_pos ⟨e1,e3⟩,if_neg hne,show k / 32 - i = (k / 32 - (i + 1)) + 1 by omega,List.getD_cons_succ]
     ·rw [if_neg (by omega),if_neg (by omega)]
    ·rw [if_neg (by omega),if_neg (by omega)]
  have skip:Fs a = none → AN k (Bm (i + 1) r) = if k % 32 = 31 ∧ i ≤ k / 32 then Fs ((a :: r).getD (k / 32 - i) .any) else none:=by
   intro h0
   rw [ih]
   by_cases e1:k % 32 = 31
   ·by_cases e3:i ≤ k / 32
    ·by_cases e4:k / 32 = i
     ·rw [if_neg (by omega),if_pos ⟨e1,e3⟩,e4,Nat.sub_self,List.getD_cons_zero,h0]
     ·rw [if_pos ⟨e1,by omega⟩,if_pos ⟨e1,e3⟩,show k / 32 - i = (k / 32 - (i + 1)) + 1 by omega,List.getD_cons_succ]
    ·rw [if_neg (by omega),if_neg (by omega)]
   ·rw [if_neg (by omega),if_neg (by omega)]
  have fin:∀ sz els,Fs a = some ⟨sz,els⟩ → AN k ((Aa i,⟨sz,els⟩) :: Bm (i + 1) r) = if k % 32 = 31 ∧ i ≤ k / 32 then Fs ((a :: r).getD (k / 32 - i) .any) else none:=by
   intro sz els h0
   rw [step]
   by_cases e:k % 32 = 31 ∧ i ≤ k / 32
   ·rw [if_pos e,if_pos e]
    by_cases e4:k / 32 = i
    ·rw [if_pos e4,e4,Nat.sub_self,List.getD_cons_zero,h0]
    ·rw [if_neg e4]
   ·rw [if_neg e,if_neg e]
  cases a
  case fresh sz els => exact fin sz els rfl
  case mem sz els _ => exact fin sz els rfl
  all_goals exact skip rfl
theorem Hl {args:List AV} {j:Nat}:AN (Aa j) (Bm 0 args) = Fs (args.getD j .any):=by
 rw [Ov,if_pos (by unfold Aa; omega)]
 congr 2
 unfold Aa; omega
theorem MC {args:List AV} {k:Nat} {h:Hm} (hg:AN k (Bm 0 args) = some h):∃ j,k = Aa j ∧ Fs (args.getD j .any) = some h:=by
 rw [Ov] at hg
 split at hg
 ·rename_i e; exact ⟨k / 32,by unfold Aa; omega,by simpa using hg⟩
 ·cases hg
def Zi (j:Nat):AV → AV
 | .fresh _ _ => .own (Aa j)
 | .mem _ _ i => .ref (Aa j) i 0
 | a => a
theorem KL:∀ (args:List AV) (i j:Nat),j < args.length → (Jo i args).getD j .any = Zi (i + j) (args.getD j .any)
 | [],_,_,h => by simp at h
 | a :: r,i,0,_ => by cases a <;> rfl
 | a :: r,i,j + 1,h => by
  have ih:=KL r (i + 1) j (by simpa using h)
  rw [show i + (j + 1) = i + 1 + j by omega,List.getD_cons_succ,← ih]
  cases a <;> rfl
theorem JJ:∀ (args:List AV) (i:Nat),(Jo i args).length = args.length
 | [],_ => rfl
 | a :: r,i => by
  have ih:=JJ r (i + 1)
  cases a <;> simp [Jo,ih]
open Go Go.RowKit
set_option linter.unusedSimpArgs false
set_option linter.unusedVariables false
def kk (as:List AV) (j:Nat):Nat:=(as.getD j .any).key1.headD 0
def Is (g:Gh) (as:List AV):Gh:=⟨fun k => g.β (kk as (k / 32)),fun k => g.cap (kk as (k / 32))⟩
theorem Pk (j:Nat):Aa j / 32 = j:=by unfold Aa; omega
theorem FF (ob:CB):∀ (ms:List Md) (as:List AV) (j:Nat),ms.length = as.length → j < as.length → (BV ob ms as).getD j .any = DI ob (ms.getD j .bor) (as.getD j .any)
 | [],[],_,_,h => by simp at h
 | [],_ :: _,_,h,_ => by simp at h
 | _ :: _,[],_,h,_ => by simp at h
 | m :: ms,a :: as,0,_,_ => by simp [BV]
 | m :: ms,a :: as,j + 1,h,hj => by
  simp only [BV,List.getD_cons_succ]
  exact FF ob ms as j (by simpa using h) (by simpa using hj)
theorem Iq (ob:CB):∀ (ms:List Md) (as:List AV),ms.length = as.length → (BV ob ms as).length = as.length
 | [],[],_ => rfl
 | [],_ :: _,h => by simp at h
 | _ :: _,[],h => by simp at h
 | m :: ms,a :: as,h => by simp [BV,Iq ob ms as (by simpa using h)]
theorem Lp:∀ (ms:List Md) (as:List AV),ED ms as = true → ms.length = as.length ∧ ∀ j,j < as.length →
  (ms.getD j .bor = .bor → Fr (as.getD j .any) = false) ∧ (ms.getD j .bor = .io → Fr (as.getD j .any) = true) ∧ (ms.getD j .bor = .mov → Fr (as.getD j .any) = true ∨ XV (as.getD j .any) = true)
 | [],[],_ => ⟨rfl,fun j hj => by simp at hj⟩
 | [],_ :: _,h => by simp [ED] at h
 | m :: _,[],h => by cases m <;> simp [ED] at h
 | m :: ms,a :: as,h => by
  have key:ED ms as = true ∧ ((m = .bor → Fr a = false) ∧ (m = .io → Fr a = true) ∧ (m = .mov → Fr a = true ∨ XV a = true)):=by
   cases m <;> simp only [ED,Bool.and_eq_true,Bool.or_eq_true,Bool.not_eq_true'] at h <;> refine ⟨h.2,?_⟩ <;> simp [h.1]
  obtain ⟨h1,h2⟩:=key
  obtain ⟨i1,i2⟩:=Lp ms as h1
  refine ⟨by simp [i1],fun j hj => ?_⟩
  cases j with
  | zero => simpa using h2
  | succ j => simpa using i2 j (by simpa using hj)
theorem JI:∀ (ms:List Md) (as:List AV) (j:Nat),ms.length = as.length → j < as.length → ms.getD j .bor ≠ .bor → ∀ k,k ∈ (as.getD j .any).key1 → k ∈ BX ms as
 | [],[],_,_,h,_,_,_ => by simp at h
 | [],_ :: _,_,h,_,_,_,_ => by simp at h
 | _ :: _,[],_,h,_,_,_,_ => by simp at h
 | m :: ms,a :: as,0,_,_,hm,k,hk => by
  cases m <;> simp at hm <;> simp only [BX,List.mem_append] <;> exact .inl (by simpa using hk)
 | m :: ms,a :: as,j + 1,h,hj,hm,k,hk => by
  have:=JI ms as j (by simpa using h) (by simpa using hj) (by simpa using hm) k (by simpa using hk)
  cases m <;> simp only [BX,List.mem_append] <;> first | exact this | exact .inr this
theorem TW:∀ (ms:List Md) (as:List AV) (j:Nat),ms.length = as.length → j < as.length → ms.getD j .bor = .bor → ∀ k,k ∈ (as.getD j .any).keys → k ∈ Dh ms as
 | [],[],_,_,h,_,_,_ => by simp at h
 | [],_ :: _,_,h,_,_,_,_ => by simp at h
 | _ :: _,[],_,h,_,_,_,_ => by simp at h
 | m :: ms,a :: as,0,_,_,hm,k,hk => by
  cases m <;> simp at hm
  simp only [Dh,List.mem_append]; exact .inl (by simpa using hk)
 | m :: ms,a :: as,j + 1,h,hj,hm,k,hk => by
  have:=TW ms as j (by simpa using h) (by simpa using hj) (by simpa using hm) k (by simpa using hk)
  cases m <;> simp only [Dh,List.mem_append] <;> first | exact this | exact .inr this
theorem Yn {k:Nat} {r:List Nat} (h:DL (k :: r) = true):k ∉ r ∧ DL r = true:=by
 simp only [DL,Bool.and_eq_true,Bool.not_eq_true',List.any_eq_false,beq_iff_eq] at h
 exact ⟨fun hk => h.1 k hk rfl,h.2⟩
theorem GF {l r:List Nat} (h:DL (l ++ r) = true):DL r = true ∧ ∀ k,k ∈ l → k ∉ r:=by
 induction l with
 | nil => exact ⟨h,fun k hk => by simp at hk⟩
 | cons a l ih =>
  obtain ⟨h1,h2⟩:=Yn h
  obtain ⟨i1,i2⟩:=ih h2
  refine ⟨i1,fun k hk => ?_⟩
  rcases List.mem_cons.1 hk with e | hk
  ·rw [e]; exact fun c => h1 (List.mem_append.2 (.inr c))
  ·exact i2 k hk
theorem Sa:∀ (ms:List Md) (as:List AV) (i j:Nat),ms.length = as.length → DL (BX ms as) = true → i < j → j < as.length → ms.getD i .bor ≠ .bor → ms.getD j .bor ≠ .bor → ∀ k,k ∈ (as.getD i .any).key1 → k ∈ (as.getD j .any).key1 → False
 | [],[],_,_,_,_,_,h,_,_,_,_,_ => by simp at h
 | [],_ :: _,_,_,h,_,_,_,_,_,_,_,_ => by simp at h
 | _ :: _,[],_,_,h,_,_,_,_,_,_,_,_ => by simp at h
 | m :: ms,a :: as,0,j + 1,hl,hd,_,hj,hi,hjm,k,h1,h2 => by
  have h3:=JI ms as j (by simpa using hl) (by simpa using hj) (by simpa using hjm) k (by simpa using h2)
  have hd':DL (a.key1 ++ BX ms as) = true:=by cases m <;> simp at hi <;> simpa [BX] using hd
  exact (GF hd').2 k (by simpa using h1) h3
 | m :: ms,a :: as,i + 1,j + 1,hl,hd,hij,hj,hi,hjm,k,h1,h2 => by
  have hd':DL (BX ms as) = true:=by
   cases m
   ·simpa [BX] using hd
   ·exact (GF (by simpa [BX] using hd)).1
   ·exact (GF (by simpa [BX] using hd)).1
  exact Sa ms as i j (by simpa using hl) hd' (by omega) (by simpa using hj) (by simpa using hi) (by simpa using hjm) k (by simpa using h1) (by simpa using h2)
 | _ :: _,_ :: _,0,0,_,_,h,_,_,_,_,_,_ => by omega
 | _ :: _,_ :: _,_ + 1,0,_,_,h,_,_,_,_,_,_ => by omega
theorem YU {ks bs:List Nat} (h:apart ks bs = true) {k:Nat} (h1:k ∈ ks) (h2:k ∈ bs):False:=by
 simp only [apart,List.all_eq_true,Bool.not_eq_true',List.any_eq_false,beq_iff_eq] at h
 exact h k h1 k h2 rfl
theorem Vl {ob:CB} {m:Md} {a:AV} {hm:Hm} (h:Fs (DI ob m a) = some hm) (hm0:m = .bor → Fr (DI ob m a) = false) :
  m ≠ .bor ∧ ∃ k,(a = .own k ∧ DI ob m a = .fresh hm.sz hm.els ∨ ∃ i,a = .ref k i 0 ∧ DI ob m a = .mem hm.sz hm.els i) ∧ AN k ob = some hm ∧ k ∈ a.key1:=by
 have hnb:m ≠ .bor:=by
  intro e
  have h0:=hm0 e
  revert h h0
  generalize DI ob m a = x
  intro h h0
  cases x <;> simp [Fs,Fr] at h h0
 refine ⟨hnb,?_⟩
 have hio:DI ob m a = IH ob a:=by cases m <;> first | exact absurd rfl hnb | rfl
 rw [hio] at h ⊢
 cases a
 case own k =>
  simp only [IH] at h ⊢
  cases ho:AN k ob with
  | none => rw [ho] at h; simp [Oz,Fs] at h
  | some h' =>
   rw [ho] at h
   simp only [Oz,Fs,Option.some.injEq] at h
   exact ⟨k,.inl ⟨rfl,by simp [Oz,← h]⟩,by rw [ho,← h],by simp [AV.key1]⟩
 case ref k i off =>
  rcases Nat.eq_zero_or_pos off with hof | hof
  ·subst hof
   simp only [IH] at h ⊢
   cases ho:AN k ob with
   | none => rw [ho] at h; simp [gX,Fs] at h
   | some h' =>
    rw [ho] at h
    simp only [gX,Fs,Option.some.injEq] at h
    subst h
    exact ⟨k,.inr ⟨i,rfl,by simp [gX]⟩,ho,by simp [AV.key1]⟩
  ·obtain ⟨n,rfl⟩:∃ n,off = n + 1:=⟨off - 1,by omega⟩
   simp [IH,Fs] at h
 all_goals simp [IH,Fs] at h
section
variable {F Iow:Nat → Prop} {w0:World} {g0:Gh} {o0:CB} {g:Gh} {w w':World} {tmps:Array Value} {ds:List Deferred} {vm ss ss':List Nat} {s:St} {P:Program} {o:Oper} {key:Nat}
theorem FR.dv1 (h:FR F g w tmps vm ss s) {S':Nat → Prop} (hS:∀ b,S' b → AW F g s.ob b) {v:Value} {a:AV} (hk:∀ k,k ∈ a.key1 → ∀ b,S' b → 0 < g.cap k → Hb s.ob k → b ≠ g.β k) (ha:LI (AW F g s.ob) w g s.ob v a):VR S' w v (a.dv1 s.ob):=by
 cases a
 case own k =>
  obtain ⟨hm,ho,e⟩:=ha
  simp only [AV.dv1,ho,pu]
  rcases e with e | ⟨hz,e⟩
  ·rw [e]; exact (h.sl_of ho fun b hb => ⟨hS b hb,fun hp => hk k (by simp [AV.key1]) b hb hp ⟨hm,ho⟩⟩).1
  ·rw [e,h.nil_els ho hz]
   exact .sl 0 0 (fun _ _ => undef) rfl (Nat.le_refl _) (h.home k hm ho).pos (fun hp => by simp at hp) (fun i hi => by simp at hi) (fun i j hi _ => by simp at hi) (fun i j hi _ => by simp at hi)
 case ref k i off =>
  obtain ⟨hm,ho,hi,e⟩:=ha
  simp only [AV.dv1,ho,dm]
  rw [e]; exact (h.sl_of ho fun b hb => ⟨hS b hb,fun hp => hk k (by simp [AV.key1]) b hb hp ⟨hm,ho⟩⟩).2 i off hi |>.narrow
 case ptr sz els i off => exact (VR.mono (At.refl _ _) (fun b _ c => hS b c) ha:VR S' w v (.ptr sz els i off)).narrow
 case fresh => exact .any
 case mem => exact .any
 case opt => exact .any
 case any => exact .any
 all_goals exact VR.mono (At.refl _ _) (fun b _ c => hS b c) ha
theorem FR.dv (h:FR F g w tmps vm ss s) {S':Nat → Prop} (hS:∀ b,S' b → AW F g s.ob b) {v:Value} {a:AV} (hk:∀ k,k ∈ a.keys → ∀ b,S' b → 0 < g.cap k → Hb s.ob k → b ≠ g.β k) (ha:SR (AW F g s.ob) w g s.ob v a):VR S' w v (a.dv s.ob):=by
 have hl:∀ (l:List AV) j,(l.map (AV.dv1 s.ob)).getD j .any = (l.getD j .any).dv1 s.ob:=fun l j => Be _ rfl l j
 cases a
 case fn f a1 a2 =>
  obtain ⟨v1,v2,rfl,n1,n2,h1,h2⟩:=ha
  refine .fn (by simpa using n1) (by simpa using n2) (fun j hj => ?_) (fun j hj => ?_)
  ·rw [hl]
   exact h.dv1 hS (fun k hkk => hk k (by simp only [AV.keys,List.flatMap_append,List.mem_append]; exact .inl (CK (by simpa using hj) hkk))) (h1 j (by simpa using hj))
  ·rw [hl]
   exact h.dv1 hS (fun k hkk => hk k (by simp only [AV.keys,List.flatMap_append,List.mem_append]; exact .inr (CK (by simpa using hj) hkk))) (h2 j (by simpa using hj))
 case own k => exact h.dv1 (a:=.own k) hS (fun k' hkk => hk k' hkk) ha
 case ref k i off => exact h.dv1 (a:=.ref k i off) hS (fun k' hkk => hk k' hkk) ha
 case ptr sz els i off => exact h.dv1 (a:=.ptr sz els i off) hS (fun k' hkk => hk k' hkk) ha
 case tup => exact .any
 case fresh => exact .any
 case mem => exact .any
 case opt => exact .any
 case any => exact .any
 all_goals exact VR.mono (At.refl _ _) (fun b _ c => hS b c) ha
theorem FR.args (h:FR F g w tmps vm ss s) {vals:Array Value} {as:List AV} {ms:List Md} (hsz:vals.size = as.length) (hv:∀ j,j < as.length → SR (AW F g s.ob) w g s.ob (vals.getD j undef) (as.getD j .any))
  (hd:DL (BX ms as) = true) (hap:apart (BX ms as) (Dh ms as) = true) (hlen:ms.length = as.length) (hsh:ED ms (BV s.ob ms as) = true)
  {Fc:Nat → Prop} (hFc:∀ b,Fc b → AW F g s.ob b ∧ ∀ k,(k ∈ BX ms as ∨ k ∈ Dh ms as) → LG g s.ob k → g.β k ≠ b) :
  FR Fc (Is g as) w vals (List.range as.length) [] (MU (BV s.ob ms as)):=by
 obtain ⟨_,hsg⟩:=Lp _ _ hsh
 have hhl:=Iq s.ob ms as hlen
 rw [hhl] at hsg
 have blk:∀ k hm,AN k (Bm 0 (BV s.ob ms as)) = some hm → ∃ j k0,k = Aa j ∧ j < as.length ∧ ms.getD j .bor ≠ .bor ∧ AN k0 s.ob = some hm ∧ k0 ∈ (as.getD j .any).key1 ∧ kk as j = k0 ∧ k0 ∈ BX ms as:=by
  intro k hm hg
  obtain ⟨j,rfl,hf⟩:=MC hg
  have hj:j < as.length:=by
   rcases Nat.lt_or_ge j as.length with h' | h'
   ·exact h'
   ·rw [List.getD_eq_getElem?_getD,List.getElem?_eq_none (by rw [hhl]; exact h')] at hf; simp [Fs] at hf
  rw [FF _ _ _ _ hlen hj] at hf
  have hs:=hsg j hj
  rw [FF _ _ _ _ hlen hj] at hs
  obtain ⟨h1,k0,h2,h3,h4⟩:=Vl hf (fun e => hs.1 e)
  refine ⟨j,k0,rfl,hj,h1,h3,h4,?_,JI ms as j hlen hj h1 k0 h4⟩
  unfold kk
  rcases h2 with ⟨e,_⟩ | ⟨_,e,_⟩ <;> rw [e] <;> rfl
 have gk:∀ j,(Is g as).β (Aa j) = g.β (kk as j) ∧ (Is g as).cap (Aa j) = g.cap (kk as j):=fun j => by
  simp [Is,Pk]
 have sub:∀ b,AW Fc (Is g as) (Bm 0 (BV s.ob ms as)) b → AW F g s.ob b:=by
  intro b hb
  rcases hb with hb | ⟨k,⟨⟨hm,hg⟩,hp⟩,e⟩
  ·exact (hFc b hb).1
  ·obtain ⟨j,k0,rfl,hj,_,ho,_,ek,_⟩:=blk k hm hg
   rw [(gk j).1,ek] at e
   rw [(gk j).2,ek] at hp
   exact .inr ⟨k0,⟨⟨hm,ho⟩,hp⟩,e⟩
 have apb:∀ k,k ∈ Dh ms as → ∀ b,AW Fc (Is g as) (Bm 0 (BV s.ob ms as)) b → 0 < g.cap k → Hb s.ob k → b ≠ g.β k:=by
  intro k hk b hb hp hin e
  rcases hb with hb | ⟨k',⟨⟨hm,hg⟩,hp'⟩,e'⟩
  ·exact (hFc b hb).2 k (.inr hk) ⟨hin,hp⟩ e.symm
  ·obtain ⟨j,k0,rfl,hj,_,ho,_,ek,hio⟩:=blk k' hm hg
   rw [(gk j).1,ek] at e'
   rw [(gk j).2,ek] at hp'
   have:=h.inj k0 k ⟨⟨hm,ho⟩,hp'⟩ ⟨hin,hp⟩ (by rw [e',e])
   subst this
   exact YU hap hio hk
 refine ⟨fun k hm hg => ?_,fun k k' hk hk' e => ?_,fun k hk => ?_,fun b hb => h.setLt (hFc b hb).1,?_,rfl,fun j hj => ?_,fun j hj => by simp at hj,fun t ht => ?_,h.tab.mono (At.refl _ _) fun b _ c => sub b c⟩
 ·obtain ⟨j,k0,rfl,hj,_,ho,_,ek,_⟩:=blk k hm hg
  rw [(gk j).1,(gk j).2,ek]
  exact (h.home k0 hm ho).mono (At.refl _ _) (fun _ => rfl) fun b _ c => sub b c
 ·obtain ⟨⟨hm,hg⟩,hp⟩:=hk
  obtain ⟨⟨hm',hg'⟩,hp'⟩:=hk'
  obtain ⟨j,k0,rfl,hj,hjm,ho,hkey,ek,_⟩:=blk k hm hg
  obtain ⟨j',k0',rfl,hj',hjm',ho',hkey',ek',_⟩:=blk k' hm' hg'
  rw [(gk j).1,(gk j').1,ek,ek'] at e
  rw [(gk j).2,ek] at hp
  rw [(gk j').2,ek'] at hp'
  have:=h.inj k0 k0' ⟨⟨hm,ho⟩,hp⟩ ⟨⟨hm',ho'⟩,hp'⟩ e
  subst this
  congr 1
  rcases Nat.lt_trichotomy j j' with hlt | heq | hlt
  ·exact (Sa ms as j j' hlen hd hlt hj' hjm hjm' k0 hkey hkey').elim
  ·exact heq
  ·exact (Sa ms as j' j hlen hd hlt hj hjm' hjm k0 hkey' hkey).elim
 ·obtain ⟨⟨hm,hg⟩,hp⟩:=hk
  obtain ⟨j,k0,rfl,hj,hjm,ho,hkey,ek,hio⟩:=blk k hm hg
  rw [(gk j).1,ek]
  rw [(gk j).2,ek] at hp
  exact fun hf => (hFc _ hf).2 k0 (.inl hio) ⟨⟨hm,ho⟩,hp⟩ rfl
 ·simp [MU,JJ,hhl]
 ·have hj':j < as.length:=by simpa using hj
  have e1:(List.range as.length).getD j 0 = j:=by rw [List.getD_eq_getElem?_getD,List.getElem?_range hj']; rfl
  rw [e1]
  simp only [MU]
  rw [KL _ 0 j (by rw [hhl]; exact hj'),Nat.zero_add]
  have hs:=hsg j hj'
  have hvj:=hv j hj'
  have hget:=FF s.ob ms as j hlen hj'
  rw [hget] at hs ⊢
  by_cases hb:ms.getD j .bor = .bor
  ·have hnf:=hs.1 hb
   have e2:Zi j (DI s.ob (ms.getD j .bor) (as.getD j .any)) = DI s.ob (ms.getD j .bor) (as.getD j .any):=by
    revert hnf
    generalize DI s.ob (ms.getD j .bor) (as.getD j .any) = x
    intro hnf
    cases x <;> first | rfl | (simp [Fr] at hnf)
   rw [e2,hb]
   refine VR.toSR (h.dv sub (fun k hk b hbb hp hin => apb k (TW ms as j hlen hj' hb k hk) b hbb hp hin) hvj)
  ·cases hf:Fs (DI s.ob (ms.getD j .bor) (as.getD j .any)) with
   | some hm =>
    obtain ⟨_,k0,h2,h3,h4⟩:=Vl hf (fun e => absurd e hb)
    have hpk:AN (Aa j) (Bm 0 (BV s.ob ms as)) = some hm:=by rw [Hl,hget,hf]
    rcases h2 with ⟨e,e2⟩ | ⟨i,e,e2⟩
    ·rw [e2]
     rw [e] at hvj
     obtain ⟨hm',ho,hval⟩:=hvj
     rw [h3] at ho; cases ho
     have ek:kk as j = k0:=by unfold kk; rw [e]; rfl
     exact ⟨hm,hpk,by rw [(gk j).1,(gk j).2,ek]; exact hval⟩
    ·rw [e2]
     rw [e] at hvj
     obtain ⟨hm',ho,hi,hval⟩:=hvj
     rw [h3] at ho; cases ho
     have ek:kk as j = k0:=by unfold kk; rw [e]; rfl
     exact ⟨hm,hpk,hi,by rw [(gk j).1,ek]; exact hval⟩
   | none =>
    have hnil:XV (DI s.ob (ms.getD j .bor) (as.getD j .any)) = true:=by
     cases hm0:ms.getD j .bor with
     | bor => exact absurd hm0 hb
     | io =>
      have:=hs.2.1 hm0
      revert this hf
      rw [hm0]
      generalize DI s.ob .io (as.getD j .any) = x
      intro hf this
      cases x <;> simp [Fr,Fs] at this hf
     | mov =>
      rcases hs.2.2 hm0 with this | this
      ·revert this hf
       rw [hm0]
       generalize DI s.ob .mov (as.getD j .any) = x
       intro hf this
       cases x <;> simp [Fr,Fs] at this hf
      ·rw [hm0] at this; exact this
    have hx:DI s.ob (ms.getD j .bor) (as.getD j .any) = .nilsl:=by
     revert hnil
     generalize DI s.ob (ms.getD j .bor) (as.getD j .any) = x
     intro hnil
     cases x <;> simp [XV] at hnil
     rfl
    have ha:as.getD j .any = .nilsl:=by
     have hio:DI s.ob (ms.getD j .bor) (as.getD j .any) = IH s.ob (as.getD j .any):=by
      cases hm0:ms.getD j .bor <;> first | exact absurd hm0 hb | rfl
     rw [hio] at hx
     revert hx
     generalize as.getD j .any = x
     intro hx
     cases x
     case own k => simp only [IH] at hx; cases ho:AN k s.ob <;> rw [ho] at hx <;> simp [Oz] at hx
     case ref k i off =>
      rcases Nat.eq_zero_or_pos off with hof | hof
      ·subst hof
       simp only [IH] at hx
       revert hx
       generalize AN k s.ob = y
       intro hx
       cases y <;> simp [gX] at hx
      ·obtain ⟨n,rfl⟩:∃ n,off = n + 1:=⟨off - 1,by omega⟩
       simp [IH] at hx
     case nilsl => rfl
     all_goals simp [IH] at hx
    rw [hx]
    rw [ha] at hvj
    have:=OQ hvj
    rw [this]
    exact VR.toSR .nilsl
 ·rcases ht with ht | ht
  ·rw [hsz]; simpa using ht
  ·simp at ht
end
end Go.Proofs.YtfaenphcgfocnaaGreatDoor
