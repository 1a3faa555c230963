/- The arguments of a call read as the callee is told. No condition. -/
import Derived.Test.YthdmeanbdohehaaGreatDoorEngL
namespace Go.Proofs.YthdmeanbdohehaaGreatDoor
open Go Go.RowKit
set_option linter.unusedSimpArgs false
set_option linter.unusedVariables false
def XY (vm ss : List Nat) (sz : Nat) : Op → Bool
 | .move y => BE vm ss y (.c .nilsl) && decide (1 ≤ sz)
 | .assign y => BE vm ss y (.c .nilsl) && decide (1 ≤ sz)
 | _ => false
def JH (P : Program) (vm ss : List Nat) (op : Op) : GO → Bool
 | .mov x => sF vm ss x op
 | .newnil sz => XY vm ss sz op
 | .alloc z => aZ P z op
 | .box x => sK vm ss x op
 | .build z ps => aY P vm ss z ps op
 | .mkSl sz z n ps => kt P vm ss sz z n ps op
 | .load agg sz p => kw P vm ss agg sz p op
 | .nilck x => aW vm ss x op
 | .bin bl u x y => sL P vm ss bl u x y op
 | .eqA neg ks x y => sJ P vm ss neg ks x y op
 | .un u x => cUn vm ss u x op
 | .conv k x => kx P vm ss k x op
 | .b2s x => sM P vm ss x op
 | .s2b x => sE P vm ss x op
 | .mkFn f fi ca => ku vm ss f fi ca op
 | .make sz bytes z l c => kv P vm ss sz bytes z l c op && decide (1 ≤ sz)
 | .slice sz x lo hi => aV P vm ss sz x lo hi op
 | .fldAddr off p => UX P vm ss off p op
 | .fld agg off sz x => sH P vm ss agg off sz x op
 | .ixAddr sz x i => XZ P vm ss sz x i op
 | .ixStr x i => aX P vm ss x i op
 | .ext x i => sI vm ss x i op
 | .len st x => sG P vm ss st x op
 | .minmax mx xs => cMM vm ss mx xs op
 | .pick _ _ _ => false
 | .store _ _ _ => false
 | .call _ _ => false
 | .callp _ _ => false
 | .callv _ _ => false
 | .app _ _ _ _ _ => false
 | .pur _ => false
 | .callw _ _ => false
 | .flat _ => false
 | .trunc _ _ _ => false
 | .movz _ => false
 | .safe _ _ => false
section
variable {F Iow : Nat → Prop} {w0 : World} {g0 : Gh} {o0 : CC} {g : Gh} {w w' : World} {tmps : Array Value} {ds : List Deferred} {vm ss ss' : List Nat} {s : St} {P : Program} {o : Oper} {key : Nat}
theorem ft (h : FR F g w tmps vm ss s) {sz : Nat} (hc : XY vm ss sz o.op = true) :
  Ax (AW F g s.ob) w g s.ob key ⟨true, .own (BQ key), [(BQ key, ⟨sz, []⟩)]⟩ ((execOp ({ tmps := tmps, defers := ds } : Act).eval o).run P w) := by
 have main : ∀ y, BE vm ss y (.c .nilsl) = true → 1 ≤ sz → (execOp ({ tmps := tmps, defers := ds } : Act).eval o).run P w = .ok (.value (({ tmps := tmps, defers := ds } : Act).eval y)) w →
   Ax (AW F g s.ob) w g s.ob key ⟨true, .own (BQ key), [(BQ key, ⟨sz, []⟩)]⟩ ((execOp ({ tmps := tmps, defers := ds } : Act).eval o).run P w) := by
  intro y hy hp hr
  have hev := MH (h.src (ds := ds) hy)
  refine ⟨_, w, hr, Aj.refl _ _, .inr ⟨BQ key, ⟨sz, []⟩, w.heap.size, 0, rfl, by simp [BQ], Nat.le_refl _, fun S' hS => ?_, .inl ⟨rfl, .inr ⟨rfl, hev⟩⟩⟩⟩
  exact ⟨hp, Nat.le_refl _, fun i hi => by simp at hi, fun hp => absurd hp (Nat.lt_irrefl _)⟩
 unfold XY at hc
 split at hc
 ·rename_i y he
  simp only [Bool.and_eq_true, decide_eq_true_eq] at hc
  exact main y hc.1 hc.2 (by simp [execOp, he])
 ·rename_i y he
  simp only [Bool.and_eq_true, decide_eq_true_eq] at hc
  exact main y hc.1 hc.2 (by simp [execOp, he])
 ·cases hc
theorem Mt (h : FR F g w tmps vm ss s) {a : GO} (hc : JH P vm ss o.op a = true) (hok : (AO (rd s) s.ob key a).ok = true) :
  Ax (AW F g s.ob) w g s.ob key (AO (rd s) s.ob key a) ((execOp ({ tmps := tmps, defers := ds } : Act).eval o).run P w) := by
 cases a <;> simp only [JH] at hc <;> simp only [AO] at hok ⊢ <;> try (cases hc; done)
 case mov => exact tr h hc
 case newnil => exact ft h hc
 case alloc => exact mE h hc hok
 case box => exact tw h hc hok
 case build => exact mD h hc hok
 case mkSl => exact pU h hc hok
 case load => exact pX h hc hok
 case nilck => exact mA h hc hok
 case bin => exact tx h hc hok
 case eqA => exact tv h hc hok
 case un => exact s_un h hc hok
 case conv => exact pZ h hc hok
 case b2s => exact tz h hc hok
 case s2b => exact tq h hc hok
 case mkFn => exact pV h hc hok
 case make =>
  simp only [Bool.and_eq_true, decide_eq_true_eq] at hc
  exact pW h hc.1 hok hc.2
 case slice => exact lz h hc hok
 case fldAddr => exact cT h hc hok
 case fld agg off sz x =>
  simp only [EU, Bool.and_eq_true] at hok
  obtain ⟨v, w', hr, hw, hcase⟩ := tt (key := key) (ds := ds) h hc hok.2 hok.1
  exact ⟨v, w', hr, hw, hcase⟩
 case ixAddr => exact fv h hc hok
 case ixStr => exact mB h hc hok
 case ext => exact tu h hc hok
 case len => exact ts h hc hok
 case minmax => exact s_mm h hc hok
def un1 : AV → AV
 | .opt true a => a
 | .opt false _ => .any
 | .int k n => .int k n
 | .bool b => .bool b
 | .str l => .str l
 | .cv v => .cv v
 | .agg cs => .agg cs
 | .tup cs => .tup cs
 | .sl sz els => .sl sz els
 | .nilsl => .nilsl
 | .ptr sz els i off => .ptr sz els i off
 | .fn f a b => .fn f a b
 | .own k => .own k
 | .ref k i off => .ref k i off
 | .fresh sz els => .fresh sz els
 | .mem sz els i => .mem sz els i
 | .any => .any
theorem SR.un1 {S : Nat → Prop} {ob : CC} {v : Value} {a : AV} (h : SR S w g ob v a) : SR S w g ob v (un1 a) := by
 cases a <;> try exact h
 rename_i b a
 cases b
 ·exact SR.any
 ·simp only [SR, if_true] at h; exact h.toSR
def unS (s : St) : St := { s with vs := s.vs.map un1, st := s.st.map un1 }
theorem FR.unS (h : FR F g w tmps vm ss s) : FR F g w tmps vm ss (unS s) :=
 ⟨h.home, h.inj, h.nF, h.fb, by simpa [Go.Proofs.YthdmeanbdohehaaGreatDoor.unS] using h.vl, by simpa [Go.Proofs.YthdmeanbdohehaaGreatDoor.unS] using h.sl,
  fun i hi => by simp only [Go.Proofs.YthdmeanbdohehaaGreatDoor.unS]; rw [Bi un1 rfl]; exact (h.vs i hi).un1,
  fun i hi => by simp only [Go.Proofs.YthdmeanbdohehaaGreatDoor.unS]; rw [Bi un1 rfl]; exact (h.st i hi).un1, h.fit, h.tab⟩
theorem Uz {a : AV} (h : CQ true a = true) : un1 a = FY a := by
 cases a <;> try rfl
 rename_i b a
 simp only [CQ, Bool.not_true, Bool.false_or] at h
 subst h; rfl
theorem TT {x : CA} (h : CQ true (rd s x) = true) : rd (unS s) x = Ow s x := by
 cases x
 case c => rfl
 all_goals
  simp only [rd, unS, Ow] at h ⊢
  rw [Bi un1 rfl]
  exact Uz h
theorem Eg {r r' : CA → AV} {ob : CC} {d : Nat} {a : GO} (hg : Al a = true) (h : ∀ x, x ∈ BA a → r x = r' x) : AO r ob d a = AO r' ob d a := by
 cases a <;> simp only [Al] at hg <;> (try (cases hg; done)) <;> simp only [BA] at h <;> simp only [AO]
 case slice sz x lo hi =>
  have e1 : lo.map r = lo.map r' := by cases lo <;> simp_all
  have e2 : hi.map r = hi.map r' := by cases hi <;> simp_all
  rw [e1, e2, h x (by simp)]
 case minmax mx xs => rw [List.map_congr_left h]
 case build z ps =>
  have e : (ps.map fun p => (p.1, p.2.1, r p.2.2)) = ps.map fun p => (p.1, p.2.1, r' p.2.2) := List.map_congr_left fun p hp => by rw [h _ (List.mem_map.2 ⟨p, hp, rfl⟩)]
  rw [e]
 case mkSl sz z n ps =>
  have e : (ps.map fun p => (p.1, r p.2)) = ps.map fun p => (p.1, r' p.2) := List.map_congr_left fun p hp => by rw [h _ (List.mem_map.2 ⟨p, hp, rfl⟩)]
  rw [e]
 all_goals simp_all
theorem Ax.frz (h : FR F g w tmps vm ss s) {m : Mk} {r : Result Next} (hp : Ax (AW F g s.ob) w g s.ob key m r) :
  ∃ v w', r = .ok (.value v) w' ∧ Aj (fun _ => False) w w' ∧ SR (AW F g s.ob) w' g s.ob v (Lp m).v := by
 obtain ⟨v, w', hr, hw, hcase⟩ := hp
 refine ⟨v, w', hr, hw, ?_⟩
 rcases hcase with ⟨h0, hs⟩ | ⟨k, h', b, cap, e, _, hb, hH, hv⟩
 ·simp only [Lp, h0, kN]; exact hs
 ·simp only [Lp, e, kN]
  have hh := hH (AW F g s.ob) fun c hc => .inl hc
  obtain ⟨rr, hcell⟩ := hh.cell
  have hn : 0 < cap → ¬ AW F g s.ob b := fun _ c => by have := h.setLt c; omega
  obtain ⟨q1, q2, q3⟩ := hh.sl hcell (fun _ c => c) hn
  rcases hv with ⟨e1, e2⟩ | ⟨e1, e2, e3⟩
  ·rw [e1]; simp only [dU]
   rcases e2 with e2 | ⟨e2, e4⟩
   ·rw [e2]; exact q1.toSR
   ·rw [e4]; exact (q2 e2).toSR
  ·rw [e1, e3]; simp only [dU]
   have := q3 0 0 e2
   rw [Nat.zero_mul, Nat.zero_add] at this
   exact this.toSR
theorem SR.lone {S : Nat → Prop} {ob : CC} {v : Value} {a : AV} (h : SR S w g ob v a) (hl : a.lone = true) : SR S w g ob v (.opt true a) := by
 simp only [SR, if_true]
 cases a
 case fn f fi ca =>
  have hat : (AV.fn f fi ca).atoms = true := by simpa [AV.atoms, AV.cells, AV.atom, AV.lone] using hl
  exact h.atoms hat
 all_goals first | exact h | (simp [AV.lone] at hl)
theorem FX.guardPut (h : FX F Iow w0 g0 o0 g w tmps vm ss s) (hnd : KU vm) {dst : Option Nat} {D : Fh} (hd : DR vm ss dst D = some ss') (hfit : ∀ d, dst = some d → d < tmps.size) {m : Mk} {v : Value}
  (hw : Aj (fun _ => False) w w') (hv : m.ok = true → m.hs = [] → SR (AW F g s.ob) w' g s.ob v m.v) (hok : (Iz s true D m).ok = true) :
  FX F Iow w0 g0 o0 g w' (Ew tmps dst v) vm ss' (Iz s true D m) := by
 have hm : m.ok = true ∧ m.hs = [] ∧ m.v.lone = true := by
  unfold Iz at hok
  cases D <;> simpa [Ar] using (by simpa [Ar] using hok : _ ∧ _).2
 have h1 := (h.toFR.grow hw).put hnd hd hfit (!true || (m.ok && (m.hs.isEmpty && m.v.lone))) (v := v) (a := .opt true m.v) (fun _ => (hv hm.1 hm.2.1).lone hm.2.2)
 have hob : (Iz s true D m).ob = s.ob := by cases D <;> rfl
 exact FX.mk' (w := w) h1 h.same (hw.mono fun _ _ c => c.elim) (fun k hk => h.hio k (by rw [hob] at hk; exact hk)) h.fio (by rw [hob]; exact h.par)
theorem FX.guardSkip (h : FX F Iow w0 g0 o0 g w tmps vm ss s) (hnd : KU vm) {dst : Option Nat} {D : Fh} (hd : DR vm ss dst D = some ss') (hfit : ∀ d, dst = some d → d < tmps.size) {m : Mk} :
  FX F Iow w0 g0 o0 g w (Ew tmps dst undef) vm ss' (Iz s false D m) := by
 have h1 := h.toFR.put hnd hd hfit (!false || (m.ok && (m.hs.isEmpty && m.v.lone))) (v := undef) (a := .opt false m.v) (fun _ => by simp [SR])
 have hob : (Iz s false D m).ob = s.ob := by cases D <;> rfl
 exact FX.mk' (w := w) h1 h.same (Aj.refl _ _) (fun k hk => h.hio k (by rw [hob] at hk; exact hk)) h.fio (by rw [hob]; exact h.par)
def Vx (vm ss : List Nat) (c a b : CA) : Op → Bool
 | .pick x y z => BE vm ss x c && (BE vm ss y a && BE vm ss z b)
 | _ => false
theorem Zu (c : Bool) (x y : AV) : Ta c x y = .any ∨ Ta c x y = (bif c then x else y) := by
 unfold Ta
 split
 ·right; cases c <;> rfl
 ·rename_i k p j q
  by_cases e : k = j
  ·subst e
   right
   simp only [beq_self_eq_true, cond_true]
   cases c <;> rfl
  ·have : (k == j) = false := by simpa using e
   simp only [this, cond_false]
   exact .inl trivial
 ·right; cases c <;> rfl
 ·exact .inr rfl
theorem mS {S : Nat → Prop} {ob : CC} {v u : Value} {x y : AV} (c : Bool) (hx : c = true → SR S w g ob v x) (hy : c = false → SR S w g ob u y) : SR S w g ob (if c = true then v else u) (Ta c x y) := by
 rcases Zu c x y with e | e
 ·rw [e]; exact SR.any
 ·rw [e]
  cases c
  ·exact hy rfl
  ·exact hx rfl
theorem fq (h : FR F g w tmps vm ss s) {c a b : CA} (hc : Vx vm ss c a b o.op = true) {ac : AV} (hcv : SR (AW F g s.ob) w g s.ob (({ tmps := tmps, defers := ds } : Act).eval (match o.op with | .pick x _ _ => x | _ => .const undef)) ac) (hok : (IQ true (rd s a) (rd s b) ac).ok = true) :
  Ax (AW F g s.ob) w g s.ob key (IQ true (rd s a) (rd s b) ac) ((execOp ({ tmps := tmps, defers := ds } : Act).eval o).run P w) := by
 unfold Vx at hc
 split at hc
 ·rename_i x y z he
  simp only [Bool.and_eq_true] at hc
  obtain ⟨h1, h2, h3⟩ := hc
  rw [he] at hcv
  have hva := h.src (ds := ds) h2
  have hvb := h.src (ds := ds) h3
  cases ac <;> simp only [IQ, bad] at hok <;> try (cases hok; done)
  rename_i cb
  have hce := Jq hcv
  simp only [IQ, Dy, Bool.true_and, Bool.and_eq_true] at hok ⊢
  have un : ∀ {v : Value} {q : AV}, SR (AW F g s.ob) w g s.ob v q → CQ true q = true → SR (AW F g s.ob) w g s.ob v (FY q) := fun hs ho => by
   rw [← Uz ho]; exact hs.un1
  refine .val (v := if cb = true then ({ tmps := tmps, defers := ds } : Act).eval y else ({ tmps := tmps, defers := ds } : Act).eval z) (by simp only [] at hce; simp [execOp, he, hce, asBool]) rfl (mS cb (fun e => ?_) (fun e => ?_))
  ·subst e; exact un hva hok.1
  ·subst e; exact un hvb hok.2
 ·cases hc
end
open Go Go.RowKit
set_option linter.unusedSimpArgs false
set_option linter.unusedVariables false
def OZ (args : List AV) : St := { vs := Hn 0 args, st := [], ob := CV 0 args, ok := true }
def lK (S : Nat → Prop) (w : World) (g : Gh) (ob : CC) (k : Nat) (v : Value) : AV → Prop
 | .fresh sz els => AL k ob = some ⟨sz, els⟩ ∧ (v = .slice (some ⟨g.β k, 0, none⟩) els.length (g.cap k) ∨ (g.cap k = 0 ∧ v = .slice none 0 0))
 | .mem sz els _ => AL k ob = some ⟨sz, els⟩ ∧ (els.length = 1 ∧ v = .pointer (some ⟨g.β k, 0, none⟩))
 | a => VR S w v a
def RV (S : Nat → Prop) (w : World) (g : Gh) (ob : CC) (κ : Nat → Nat) (v : Value) : AV → Prop
 | .tup as => ∃ vs, v = .tuple vs ∧ vs.size = as.length ∧ ∀ j, j < as.length → lK S w g ob (κ (j + 1)) (vs.getD j undef) (as.getD j .any)
 | a => lK S w g ob (κ 0) v a
def GB : AV → Bool
 | .fresh _ _ => true
 | .mem _ _ _ => true
 | _ => false
def GE (r : AV) (i : Nat) : Prop :=
 match r with
 | .tup as => ∃ j, i = j + 1 ∧ j < as.length ∧ GB (as.getD j .any) = true
 | a => i = 0 ∧ GB a = true
def Ei : AV → Bool
 | .int _ _ => true
 | .bool _ => true
 | .str _ => true
 | _ => false
def bf (a : AV) : Bool := a.cells.all Ei
def ES : AV → Bool
 | .fresh _ els => els.all bf
 | .mem _ els _ => els.all bf
 | a => Ei a
def EA : AV → Bool
 | .tup as => as.all ES
 | a => ES a
structure ZW (F : Nat → Prop) (g0 : Gh) (args : List AV) (modes : List Md) (w : World) (v : Value) (w' : World) (r : AV) (outs : List AV) (g : Gh) (ob : CC) (κ : Nat → Nat) : Prop where
 same : Aj (fun b => ∃ k, Jm g0 (CV 0 args) k ∧ g0.β k = b) w w'
 home : ∀ k h, AL k ob = some h → Ft (AW F g ob) w' (g.β k) (g.cap k) h.sz h.els
 inj : ∀ k k', Jm g ob k → Jm g ob k' → g.β k = g.β k' → k = k'
 nF : ∀ k, Jm g ob k → ¬ F (g.β k)
 hio : ∀ k, Jm g ob k → w.heap.size ≤ g.β k ∨ ∃ k', Jm g0 (CV 0 args) k' ∧ g0.β k' = g.β k
 val : RV (AW F g ob) w' g ob κ v r
 κinj : ∀ i j, GE r i → GE r j → κ i = κ j → i = j
 κio : ∀ i j, GE r i → modes[j]? = some .io → κ i ≠ Au j
 out : ∀ j, modes[j]? = some .io → ∃ sz e0 els, ((args.getD j .any = .fresh sz e0 ∧ outs.getD j .any = .fresh sz els) ∨ (∃ i i', args.getD j .any = .mem sz e0 i ∧ outs.getD j .any = .mem sz els i')) ∧
  els.length = e0.length ∧ AL (Au j) ob = some ⟨sz, els⟩ ∧ g.β (Au j) = g0.β (Au j) ∧ g.cap (Au j) = g0.cap (Au j)
def DM (P : Program) (f : FuncId) (args : Array Value) (w : World) (R : Ending → World → Prop) : Prop :=
 match (callFunc f args).run P w with
 | .ok (.value v) w' => R (.returned v) w'
 | .ok (.enter f' args') w' => Calls P f' args' w' R
 | _ => False
def mO (ms : List Md) : Bool := ms.all fun m => !(m == .io)
def Ad (P : Program) (f : FuncId) (C : Bf) : Prop :=
 (C.flat = true → mO C.modes = true) ∧
 ∀ (F : Nat → Prop) (g0 : Gh) (w : World) (args : List AV) (vargs : Array Value), EC C.modes args = true → vargs.size = args.length →
  FR F g0 w vargs (List.range args.length) [] (OZ args) → (C.F args).ok = true →
  (C.flat = true → EA (C.F args).r = true) ∧
  DM P f vargs w fun e w' => ∃ v g ob κ, e = .returned v ∧ ZW F g0 args C.modes w v w' (C.F args).r (C.F args).outs g ob κ
theorem Yq {S S' : Nat → Prop} {w w' : World} {v : Value} {a : AV} (hf : Ei a = true) (h : VR S w v a) : VR S' w' v a := by
 cases a <;> simp [Ei] at hf <;> cases h <;> constructor
def FG : AV → Option Hm
 | .fresh sz els => some ⟨sz, els⟩
 | .mem sz els _ => some ⟨sz, els⟩
 | _ => none
theorem mN {i j : Nat} (h : Au i = Au j) : i = j := by unfold Au at h; omega
theorem MZ (k : Nat) : ∀ (args : List AV) (i : Nat), AL k (CV i args) = if k % 32 = 31 ∧ i ≤ k / 32 then FG (args.getD (k / 32 - i) .any) else none
 | [], i => by simp [CV, AL, FG]
 | a :: r, i => by
  have ih := MZ k r (i + 1)
  have step : ∀ h : Hm, AL k ((Au i, h) :: CV (i + 1) r) = if k % 32 = 31 ∧ i ≤ k / 32 then (if k / 32 = i then some h else FG ((a :: r).getD (k / 32 - i) .any)) else none := by
   intro h
   simp only [AL, AM, beq_iff_eq, ih]
   by_cases e : Au i = k
   ·subst e
    have h1 : (32 * i + 31) % 32 = 31 := by omega
    have h2 : (32 * i + 31) / 32 = i := by omega
    simp [Au, h1, h2]
   ·rw [if_neg e]
    by_cases e1 : k % 32 = 31
    ·have hne : k / 32 ≠ i := fun e2 => e (by unfold Au; omega)
     by_cases e3 : i ≤ k / 32
     ·rw [if_pos ⟨e1, by omega⟩, if_pos ⟨e1, e3⟩, if_neg hne, show k / 32 - i = (k / 32 - (i + 1)) + 1 by omega, List.getD_cons_succ]
     ·rw [if_neg (by omega), if_neg (by omega)]
    ·rw [if_neg (by omega), if_neg (by omega)]
  have skip : FG a = none → AL k (CV (i + 1) r) = if k % 32 = 31 ∧ i ≤ k / 32 then FG ((a :: r).getD (k / 32 - i) .any) else none := by
   intro h0
   rw [ih]
   by_cases e1 : k % 32 = 31
   ·by_cases e3 : i ≤ k / 32
    ·by_cases e4 : k / 32 = i
     ·rw [if_neg (by omega), if_pos ⟨e1, e3⟩, e4, Nat.sub_self, List.getD_cons_zero, h0]
     ·rw [if_pos ⟨e1, by omega⟩, if_pos ⟨e1, e3⟩, show k / 32 - i = (k / 32 - (i + 1)) + 1 by omega, List.getD_cons_succ]
    ·rw [if_neg (by omega), if_neg (by omega)]
   ·rw [if_neg (by omega), if_neg (by omega)]
  have fin : ∀ sz els, FG a = some ⟨sz, els⟩ → AL k ((Au i, ⟨sz, els⟩) :: CV (i + 1) r) = if k % 32 = 31 ∧ i ≤ k / 32 then FG ((a :: r).getD (k / 32 - i) .any) else none := by
   intro sz els h0
   rw [step]
   by_cases e : k % 32 = 31 ∧ i ≤ k / 32
   ·rw [if_pos e, if_pos e]
    by_cases e4 : k / 32 = i
    ·rw [if_pos e4, e4, Nat.sub_self, List.getD_cons_zero, h0]
    ·rw [if_neg e4]
   ·rw [if_neg e, if_neg e]
  cases a
  case fresh sz els => exact fin sz els rfl
  case mem sz els _ => exact fin sz els rfl
  all_goals exact skip rfl
theorem KX {args : List AV} {j : Nat} : AL (Au j) (CV 0 args) = FG (args.getD j .any) := by
 rw [MZ, if_pos (by unfold Au; omega)]
 congr 2
 unfold Au; omega
theorem MY {args : List AV} {k : Nat} {h : Hm} (hg : AL k (CV 0 args) = some h) : ∃ j, k = Au j ∧ FG (args.getD j .any) = some h := by
 rw [MZ] at hg
 split at hg
 ·rename_i e; exact ⟨k / 32, by unfold Au; omega, by simpa using hg⟩
 ·cases hg
def Yh (j : Nat) : AV → AV
 | .fresh _ _ => .own (Au j)
 | .mem _ _ i => .ref (Au j) i 0
 | a => a
theorem KD : ∀ (args : List AV) (i j : Nat), j < args.length → (Hn i args).getD j .any = Yh (i + j) (args.getD j .any)
 | [], _, _, h => by simp at h
 | a :: r, i, 0, _ => by cases a <;> rfl
 | a :: r, i, j + 1, h => by
  have ih := KD r (i + 1) j (by simpa using h)
  rw [show i + (j + 1) = i + 1 + j by omega, List.getD_cons_succ, ← ih]
  cases a <;> rfl
theorem IZ : ∀ (args : List AV) (i : Nat), (Hn i args).length = args.length
 | [], _ => rfl
 | a :: r, i => by
  have ih := IZ r (i + 1)
  cases a <;> simp [Hn, ih]
open Go Go.RowKit
set_option linter.unusedSimpArgs false
set_option linter.unusedVariables false
def kk (as : List AV) (j : Nat) : Nat := (as.getD j .any).key1.headD 0
def HC (g : Gh) (as : List AV) : Gh := ⟨fun k => g.β (kk as (k / 32)), fun k => g.cap (kk as (k / 32))⟩
theorem NI (j : Nat) : Au j / 32 = j := by unfold Au; omega
theorem Ec (ob : CC) : ∀ (ms : List Md) (as : List AV) (j : Nat), ms.length = as.length → j < as.length → (BN ob ms as).getD j .any = DB ob (ms.getD j .bor) (as.getD j .any)
 | [], [], _, _, h => by simp at h
 | [], _ :: _, _, h, _ => by simp at h
 | _ :: _, [], _, h, _ => by simp at h
 | m :: ms, a :: as, 0, _, _ => by simp [BN]
 | m :: ms, a :: as, j + 1, h, hj => by
  simp only [BN, List.getD_cons_succ]
  exact Ec ob ms as j (by simpa using h) (by simpa using hj)
theorem Gy (ob : CC) : ∀ (ms : List Md) (as : List AV), ms.length = as.length → (BN ob ms as).length = as.length
 | [], [], _ => rfl
 | [], _ :: _, h => by simp at h
 | _ :: _, [], h => by simp at h
 | m :: ms, a :: as, h => by simp [BN, Gy ob ms as (by simpa using h)]
theorem Ju : ∀ (ms : List Md) (as : List AV), EC ms as = true → ms.length = as.length ∧ ∀ j, j < as.length →
  (ms.getD j .bor = .bor → Fg (as.getD j .any) = false) ∧ (ms.getD j .bor = .io → Fg (as.getD j .any) = true) ∧ (ms.getD j .bor = .mov → Fg (as.getD j .any) = true ∨ Tj (as.getD j .any) = true)
 | [], [], _ => ⟨rfl, fun j hj => by simp at hj⟩
 | [], _ :: _, h => by simp [EC] at h
 | m :: _, [], h => by cases m <;> simp [EC] at h
 | m :: ms, a :: as, h => by
  have key : EC ms as = true ∧ ((m = .bor → Fg a = false) ∧ (m = .io → Fg a = true) ∧ (m = .mov → Fg a = true ∨ Tj a = true)) := by
   cases m <;> simp only [EC, Bool.and_eq_true, Bool.or_eq_true, Bool.not_eq_true'] at h <;> refine ⟨h.2, ?_⟩ <;> simp [h.1]
  obtain ⟨h1, h2⟩ := key
  obtain ⟨i1, i2⟩ := Ju ms as h1
  refine ⟨by simp [i1], fun j hj => ?_⟩
  cases j with
  | zero => simpa using h2
  | succ j => simpa using i2 j (by simpa using hj)
theorem HM : ∀ (ms : List Md) (as : List AV) (j : Nat), ms.length = as.length → j < as.length → ms.getD j .bor ≠ .bor → ∀ k, k ∈ (as.getD j .any).key1 → k ∈ BI ms as
 | [], [], _, _, h, _, _, _ => by simp at h
 | [], _ :: _, _, h, _, _, _, _ => by simp at h
 | _ :: _, [], _, h, _, _, _, _ => by simp at h
 | m :: ms, a :: as, 0, _, _, hm, k, hk => by
  cases m <;> simp at hm <;> simp only [BI, List.mem_append] <;> exact .inl (by simpa using hk)
 | m :: ms, a :: as, j + 1, h, hj, hm, k, hk => by
  have := HM ms as j (by simpa using h) (by simpa using hj) (by simpa using hm) k (by simpa using hk)
  cases m <;> simp only [BI, List.mem_append] <;> first | exact this | exact .inr this
theorem QE : ∀ (ms : List Md) (as : List AV) (j : Nat), ms.length = as.length → j < as.length → ms.getD j .bor = .bor → ∀ k, k ∈ (as.getD j .any).keys → k ∈ Dc ms as
 | [], [], _, _, h, _, _, _ => by simp at h
 | [], _ :: _, _, h, _, _, _, _ => by simp at h
 | _ :: _, [], _, h, _, _, _, _ => by simp at h
 | m :: ms, a :: as, 0, _, _, hm, k, hk => by
  cases m <;> simp at hm
  simp only [Dc, List.mem_append]; exact .inl (by simpa using hk)
 | m :: ms, a :: as, j + 1, h, hj, hm, k, hk => by
  have := QE ms as j (by simpa using h) (by simpa using hj) (by simpa using hm) k (by simpa using hk)
  cases m <;> simp only [Dc, List.mem_append] <;> first | exact this | exact .inr this
theorem Us {k : Nat} {r : List Nat} (h : DE (k :: r) = true) : k ∉ r ∧ DE r = true := by
 simp only [DE, Bool.and_eq_true, Bool.not_eq_true', List.any_eq_false, beq_iff_eq] at h
 exact ⟨fun hk => h.1 k hk rfl, h.2⟩
theorem FH {l r : List Nat} (h : DE (l ++ r) = true) : DE r = true ∧ ∀ k, k ∈ l → k ∉ r := by
 induction l with
 | nil => exact ⟨h, fun k hk => by simp at hk⟩
 | cons a l ih =>
  obtain ⟨h1, h2⟩ := Us h
  obtain ⟨i1, i2⟩ := ih h2
  refine ⟨i1, fun k hk => ?_⟩
  rcases List.mem_cons.1 hk with e | hk
  ·rw [e]; exact fun c => h1 (List.mem_append.2 (.inr c))
  ·exact i2 k hk
theorem PY : ∀ (ms : List Md) (as : List AV) (i j : Nat), ms.length = as.length → DE (BI ms as) = true → i < j → j < as.length → ms.getD i .bor ≠ .bor → ms.getD j .bor ≠ .bor → ∀ k, k ∈ (as.getD i .any).key1 → k ∈ (as.getD j .any).key1 → False
 | [], [], _, _, _, _, _, h, _, _, _, _, _ => by simp at h
 | [], _ :: _, _, _, h, _, _, _, _, _, _, _, _ => by simp at h
 | _ :: _, [], _, _, h, _, _, _, _, _, _, _, _ => by simp at h
 | m :: ms, a :: as, 0, j + 1, hl, hd, _, hj, hi, hjm, k, h1, h2 => by
  have h3 := HM ms as j (by simpa using hl) (by simpa using hj) (by simpa using hjm) k (by simpa using h2)
  have hd' : DE (a.key1 ++ BI ms as) = true := by cases m <;> simp at hi <;> simpa [BI] using hd
  exact (FH hd').2 k (by simpa using h1) h3
 | m :: ms, a :: as, i + 1, j + 1, hl, hd, hij, hj, hi, hjm, k, h1, h2 => by
  have hd' : DE (BI ms as) = true := by
   cases m
   ·simpa [BI] using hd
   ·exact (FH (by simpa [BI] using hd)).1
   ·exact (FH (by simpa [BI] using hd)).1
  exact PY ms as i j (by simpa using hl) hd' (by omega) (by simpa using hj) (by simpa using hi) (by simpa using hjm) k (by simpa using h1) (by simpa using h2)
 | _ :: _, _ :: _, 0, 0, _, _, h, _, _, _, _, _, _ => by omega
 | _ :: _, _ :: _, _ + 1, 0, _, _, h, _, _, _, _, _, _ => by omega
theorem Uc {ks bs : List Nat} (h : apart ks bs = true) {k : Nat} (h1 : k ∈ ks) (h2 : k ∈ bs) : False := by
 simp only [apart, List.all_eq_true, Bool.not_eq_true', List.any_eq_false, beq_iff_eq] at h
 exact h k h1 k h2 rfl
theorem Rx {ob : CC} {m : Md} {a : AV} {hm : Hm} (h : FG (DB ob m a) = some hm) (hm0 : m = .bor → Fg (DB ob m a) = false) :
  m ≠ .bor ∧ ∃ k, (a = .own k ∧ DB ob m a = .fresh hm.sz hm.els ∨ ∃ i, a = .ref k i 0 ∧ DB ob m a = .mem hm.sz hm.els i) ∧ AL k ob = some hm ∧ k ∈ a.key1 := by
 have hnb : m ≠ .bor := by
  intro e
  have h0 := hm0 e
  revert h h0
  generalize DB ob m a = x
  intro h h0
  cases x <;> simp [FG, Fg] at h h0
 refine ⟨hnb, ?_⟩
 have hio : DB ob m a = Gf ob a := by cases m <;> first | exact absurd rfl hnb | rfl
 rw [hio] at h ⊢
 cases a
 case own k =>
  simp only [Gf] at h ⊢
  cases ho : AL k ob with
  | none => rw [ho] at h; simp [Me, FG] at h
  | some h' =>
   rw [ho] at h
   simp only [Me, FG, Option.some.injEq] at h
   exact ⟨k, .inl ⟨rfl, by simp [Me, ← h]⟩, by rw [ho, ← h], by simp [AV.key1]⟩
 case ref k i off =>
  rcases Nat.eq_zero_or_pos off with hof | hof
  ·subst hof
   simp only [Gf] at h ⊢
   cases ho : AL k ob with
   | none => rw [ho] at h; simp [Zv, FG] at h
   | some h' =>
    rw [ho] at h
    simp only [Zv, FG, Option.some.injEq] at h
    subst h
    exact ⟨k, .inr ⟨i, rfl, by simp [Zv]⟩, ho, by simp [AV.key1]⟩
  ·obtain ⟨n, rfl⟩ : ∃ n, off = n + 1 := ⟨off - 1, by omega⟩
   simp [Gf, FG] at h
 all_goals simp [Gf, FG] at h
section
variable {F Iow : Nat → Prop} {w0 : World} {g0 : Gh} {o0 : CC} {g : Gh} {w w' : World} {tmps : Array Value} {ds : List Deferred} {vm ss ss' : List Nat} {s : St} {P : Program} {o : Oper} {key : Nat}
theorem FR.dv1 (h : FR F g w tmps vm ss s) {S' : Nat → Prop} (hS : ∀ b, S' b → AW F g s.ob b) {v : Value} {a : AV} (hk : ∀ k, k ∈ a.key1 → ∀ b, S' b → 0 < g.cap k → Gj s.ob k → b ≠ g.β k) (ha : JI (AW F g s.ob) w g s.ob v a) : VR S' w v (a.dv1 s.ob) := by
 cases a
 case own k =>
  obtain ⟨hm, ho, e⟩ := ha
  simp only [AV.dv1, ho, fk]
  rcases e with e | ⟨hz, e⟩
  ·rw [e]; exact (h.sl_of ho fun b hb => ⟨hS b hb, fun hp => hk k (by simp [AV.key1]) b hb hp ⟨hm, ho⟩⟩).1
  ·rw [e, h.nil_els ho hz]
   exact .sl 0 0 (fun _ _ => undef) rfl (Nat.le_refl _) (h.home k hm ho).pos (fun hp => by simp at hp) (fun i hi => by simp at hi) (fun i j hi _ => by simp at hi) (fun i j hi _ => by simp at hi)
 case ref k i off =>
  obtain ⟨hm, ho, hi, e⟩ := ha
  simp only [AV.dv1, ho, YL]
  rw [e]; exact (h.sl_of ho fun b hb => ⟨hS b hb, fun hp => hk k (by simp [AV.key1]) b hb hp ⟨hm, ho⟩⟩).2 i off hi |>.narrow
 case ptr sz els i off => exact (VR.mono (Aj.refl _ _) (fun b _ c => hS b c) ha : VR S' w v (.ptr sz els i off)).narrow
 case fresh => exact .any
 case mem => exact .any
 case opt => exact .any
 case any => exact .any
 all_goals exact VR.mono (Aj.refl _ _) (fun b _ c => hS b c) ha
theorem FR.dv (h : FR F g w tmps vm ss s) {S' : Nat → Prop} (hS : ∀ b, S' b → AW F g s.ob b) {v : Value} {a : AV} (hk : ∀ k, k ∈ a.keys → ∀ b, S' b → 0 < g.cap k → Gj s.ob k → b ≠ g.β k) (ha : SR (AW F g s.ob) w g s.ob v a) : VR S' w v (a.dv s.ob) := by
 have hl : ∀ (l : List AV) j, (l.map (AV.dv1 s.ob)).getD j .any = (l.getD j .any).dv1 s.ob := fun l j => Bi _ rfl l j
 cases a
 case fn f a1 a2 =>
  obtain ⟨v1, v2, rfl, n1, n2, h1, h2⟩ := ha
  refine .fn (by simpa using n1) (by simpa using n2) (fun j hj => ?_) (fun j hj => ?_)
  ·rw [hl]
   exact h.dv1 hS (fun k hkk => hk k (by simp only [AV.keys, List.flatMap_append, List.mem_append]; exact .inl (CK (by simpa using hj) hkk))) (h1 j (by simpa using hj))
  ·rw [hl]
   exact h.dv1 hS (fun k hkk => hk k (by simp only [AV.keys, List.flatMap_append, List.mem_append]; exact .inr (CK (by simpa using hj) hkk))) (h2 j (by simpa using hj))
 case own k => exact h.dv1 (a := .own k) hS (fun k' hkk => hk k' hkk) ha
 case ref k i off => exact h.dv1 (a := .ref k i off) hS (fun k' hkk => hk k' hkk) ha
 case ptr sz els i off => exact h.dv1 (a := .ptr sz els i off) hS (fun k' hkk => hk k' hkk) ha
 case tup => exact .any
 case fresh => exact .any
 case mem => exact .any
 case opt => exact .any
 case any => exact .any
 all_goals exact VR.mono (Aj.refl _ _) (fun b _ c => hS b c) ha
theorem FR.args (h : FR F g w tmps vm ss s) {vals : Array Value} {as : List AV} {ms : List Md} (hsz : vals.size = as.length) (hv : ∀ j, j < as.length → SR (AW F g s.ob) w g s.ob (vals.getD j undef) (as.getD j .any))
  (hd : DE (BI ms as) = true) (hap : apart (BI ms as) (Dc ms as) = true) (hlen : ms.length = as.length) (hsh : EC ms (BN s.ob ms as) = true)
  {Fc : Nat → Prop} (hFc : ∀ b, Fc b → AW F g s.ob b ∧ ∀ k, (k ∈ BI ms as ∨ k ∈ Dc ms as) → Jm g s.ob k → g.β k ≠ b) :
  FR Fc (HC g as) w vals (List.range as.length) [] (OZ (BN s.ob ms as)) := by
 obtain ⟨_, hsg⟩ := Ju _ _ hsh
 have hhl := Gy s.ob ms as hlen
 rw [hhl] at hsg
 have blk : ∀ k hm, AL k (CV 0 (BN s.ob ms as)) = some hm → ∃ j k0, k = Au j ∧ j < as.length ∧ ms.getD j .bor ≠ .bor ∧ AL k0 s.ob = some hm ∧ k0 ∈ (as.getD j .any).key1 ∧ kk as j = k0 ∧ k0 ∈ BI ms as := by
  intro k hm hg
  obtain ⟨j, rfl, hf⟩ := MY hg
  have hj : j < as.length := by
   rcases Nat.lt_or_ge j as.length with h' | h'
   ·exact h'
   ·rw [List.getD_eq_getElem?_getD, List.getElem?_eq_none (by rw [hhl]; exact h')] at hf; simp [FG] at hf
  rw [Ec _ _ _ _ hlen hj] at hf
  have hs := hsg j hj
  rw [Ec _ _ _ _ hlen hj] at hs
  obtain ⟨h1, k0, h2, h3, h4⟩ := Rx hf (fun e => hs.1 e)
  refine ⟨j, k0, rfl, hj, h1, h3, h4, ?_, HM ms as j hlen hj h1 k0 h4⟩
  unfold kk
  rcases h2 with ⟨e, _⟩ | ⟨_, e, _⟩ <;> rw [e] <;> rfl
 have gk : ∀ j, (HC g as).β (Au j) = g.β (kk as j) ∧ (HC g as).cap (Au j) = g.cap (kk as j) := fun j => by
  simp [HC, NI]
 have sub : ∀ b, AW Fc (HC g as) (CV 0 (BN s.ob ms as)) b → AW F g s.ob b := by
  intro b hb
  rcases hb with hb | ⟨k, ⟨⟨hm, hg⟩, hp⟩, e⟩
  ·exact (hFc b hb).1
  ·obtain ⟨j, k0, rfl, hj, _, ho, _, ek, _⟩ := blk k hm hg
   rw [(gk j).1, ek] at e
   rw [(gk j).2, ek] at hp
   exact .inr ⟨k0, ⟨⟨hm, ho⟩, hp⟩, e⟩
 have apb : ∀ k, k ∈ Dc ms as → ∀ b, AW Fc (HC g as) (CV 0 (BN s.ob ms as)) b → 0 < g.cap k → Gj s.ob k → b ≠ g.β k := by
  intro k hk b hb hp hin e
  rcases hb with hb | ⟨k', ⟨⟨hm, hg⟩, hp'⟩, e'⟩
  ·exact (hFc b hb).2 k (.inr hk) ⟨hin, hp⟩ e.symm
  ·obtain ⟨j, k0, rfl, hj, _, ho, _, ek, hio⟩ := blk k' hm hg
   rw [(gk j).1, ek] at e'
   rw [(gk j).2, ek] at hp'
   have := h.inj k0 k ⟨⟨hm, ho⟩, hp'⟩ ⟨hin, hp⟩ (by rw [e', e])
   subst this
   exact Uc hap hio hk
 refine ⟨fun k hm hg => ?_, fun k k' hk hk' e => ?_, fun k hk => ?_, fun b hb => h.setLt (hFc b hb).1, ?_, rfl, fun j hj => ?_, fun j hj => by simp at hj, fun t ht => ?_, h.tab.mono (Aj.refl _ _) fun b _ c => sub b c⟩
 ·obtain ⟨j, k0, rfl, hj, _, ho, _, ek, _⟩ := blk k hm hg
  rw [(gk j).1, (gk j).2, ek]
  exact (h.home k0 hm ho).mono (Aj.refl _ _) (fun _ => rfl) fun b _ c => sub b c
 ·obtain ⟨⟨hm, hg⟩, hp⟩ := hk
  obtain ⟨⟨hm', hg'⟩, hp'⟩ := hk'
  obtain ⟨j, k0, rfl, hj, hjm, ho, hkey, ek, _⟩ := blk k hm hg
  obtain ⟨j', k0', rfl, hj', hjm', ho', hkey', ek', _⟩ := blk k' hm' hg'
  rw [(gk j).1, (gk j').1, ek, ek'] at e
  rw [(gk j).2, ek] at hp
  rw [(gk j').2, ek'] at hp'
  have := h.inj k0 k0' ⟨⟨hm, ho⟩, hp⟩ ⟨⟨hm', ho'⟩, hp'⟩ e
  subst this
  congr 1
  rcases Nat.lt_trichotomy j j' with hlt | heq | hlt
  ·exact (PY ms as j j' hlen hd hlt hj' hjm hjm' k0 hkey hkey').elim
  ·exact heq
  ·exact (PY ms as j' j hlen hd hlt hj hjm' hjm k0 hkey' hkey).elim
 ·obtain ⟨⟨hm, hg⟩, hp⟩ := hk
  obtain ⟨j, k0, rfl, hj, hjm, ho, hkey, ek, hio⟩ := blk k hm hg
  rw [(gk j).1, ek]
  rw [(gk j).2, ek] at hp
  exact fun hf => (hFc _ hf).2 k0 (.inl hio) ⟨⟨hm, ho⟩, hp⟩ rfl
 ·simp [OZ, IZ, hhl]
 ·have hj' : j < as.length := by simpa using hj
  have e1 : (List.range as.length).getD j 0 = j := by rw [List.getD_eq_getElem?_getD, List.getElem?_range hj']; rfl
  rw [e1]
  simp only [OZ]
  rw [KD _ 0 j (by rw [hhl]; exact hj'), Nat.zero_add]
  have hs := hsg j hj'
  have hvj := hv j hj'
  have hget := Ec s.ob ms as j hlen hj'
  rw [hget] at hs ⊢
  by_cases hb : ms.getD j .bor = .bor
  ·have hnf := hs.1 hb
   have e2 : Yh j (DB s.ob (ms.getD j .bor) (as.getD j .any)) = DB s.ob (ms.getD j .bor) (as.getD j .any) := by
    revert hnf
    generalize DB s.ob (ms.getD j .bor) (as.getD j .any) = x
    intro hnf
    cases x <;> first | rfl | (simp [Fg] at hnf)
   rw [e2, hb]
   refine VR.toSR (h.dv sub (fun k hk b hbb hp hin => apb k (QE ms as j hlen hj' hb k hk) b hbb hp hin) hvj)
  ·cases hf : FG (DB s.ob (ms.getD j .bor) (as.getD j .any)) with
   | some hm =>
    obtain ⟨_, k0, h2, h3, h4⟩ := Rx hf (fun e => absurd e hb)
    have hpk : AL (Au j) (CV 0 (BN s.ob ms as)) = some hm := by rw [KX, hget, hf]
    rcases h2 with ⟨e, e2⟩ | ⟨i, e, e2⟩
    ·rw [e2]
     rw [e] at hvj
     obtain ⟨hm', ho, hval⟩ := hvj
     rw [h3] at ho; cases ho
     have ek : kk as j = k0 := by unfold kk; rw [e]; rfl
     exact ⟨hm, hpk, by rw [(gk j).1, (gk j).2, ek]; exact hval⟩
    ·rw [e2]
     rw [e] at hvj
     obtain ⟨hm', ho, hi, hval⟩ := hvj
     rw [h3] at ho; cases ho
     have ek : kk as j = k0 := by unfold kk; rw [e]; rfl
     exact ⟨hm, hpk, hi, by rw [(gk j).1, ek]; exact hval⟩
   | none =>
    have hnil : Tj (DB s.ob (ms.getD j .bor) (as.getD j .any)) = true := by
     cases hm0 : ms.getD j .bor with
     | bor => exact absurd hm0 hb
     | io =>
      have := hs.2.1 hm0
      revert this hf
      rw [hm0]
      generalize DB s.ob .io (as.getD j .any) = x
      intro hf this
      cases x <;> simp [Fg, FG] at this hf
     | mov =>
      rcases hs.2.2 hm0 with this | this
      ·revert this hf
       rw [hm0]
       generalize DB s.ob .mov (as.getD j .any) = x
       intro hf this
       cases x <;> simp [Fg, FG] at this hf
      ·rw [hm0] at this; exact this
    have hx : DB s.ob (ms.getD j .bor) (as.getD j .any) = .nilsl := by
     revert hnil
     generalize DB s.ob (ms.getD j .bor) (as.getD j .any) = x
     intro hnil
     cases x <;> simp [Tj] at hnil
     rfl
    have ha : as.getD j .any = .nilsl := by
     have hio : DB s.ob (ms.getD j .bor) (as.getD j .any) = Gf s.ob (as.getD j .any) := by
      cases hm0 : ms.getD j .bor <;> first | exact absurd hm0 hb | rfl
     rw [hio] at hx
     revert hx
     generalize as.getD j .any = x
     intro hx
     cases x
     case own k => simp only [Gf] at hx; cases ho : AL k s.ob <;> rw [ho] at hx <;> simp [Me] at hx
     case ref k i off =>
      rcases Nat.eq_zero_or_pos off with hof | hof
      ·subst hof
       simp only [Gf] at hx
       revert hx
       generalize AL k s.ob = y
       intro hx
       cases y <;> simp [Zv] at hx
      ·obtain ⟨n, rfl⟩ : ∃ n, off = n + 1 := ⟨off - 1, by omega⟩
       simp [Gf] at hx
     case nilsl => rfl
     all_goals simp [Gf] at hx
    rw [hx]
    rw [ha] at hvj
    have := MH hvj
    rw [this]
    exact VR.toSR .nilsl
 ·rcases ht with ht | ht
  ·rw [hsz]; simpa using ht
  ·simp at ht
end
end Go.Proofs.YthdmeanbdohehaaGreatDoor
