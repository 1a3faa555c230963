/- The arguments of a call read as the callee is told. No condition. -/
import Derived.Test.YtbobhejdijcofaaGreatDoorEngL
namespace Go.Proofs.YtbobhejdijcofaaGreatDoor
open Go Go.RowKit
set_option linter.unusedSimpArgs false
set_option linter.unusedVariables false

def cNewnil (vm ss : List Nat) (sz : Nat) : Op → Bool
  | .move y => chkSrc vm ss y (.c .nilsl) && decide (1 ≤ sz)
  | .assign y => chkSrc vm ss y (.c .nilsl) && decide (1 ≤ sz)
  | _ => false

def cStill (P : Program) (vm ss : List Nat) (op : Op) : AOp → Bool
  | .mov x => cMov vm ss x op
  | .newnil sz => cNewnil vm ss sz op
  | .alloc z => cAlloc P z op
  | .box x => cBox vm ss x op
  | .build z ps => cBuild P vm ss z ps op
  | .mkSl sz z n ps => cMkSl P vm ss sz z n ps op
  | .load agg sz p => cLoad P vm ss agg sz p op
  | .nilck x => cNilck vm ss x op
  | .bin bl u x y => cBin P vm ss bl u x y op
  | .eqA neg ks x y => cEqA P vm ss neg ks x y op
  | .un u x => cUn vm ss u x op
  | .conv k x => cConv P vm ss k x op
  | .b2s x => cB2s P vm ss x op
  | .s2b x => cS2b P vm ss x op
  | .mkFn f fi ca => cMkFn vm ss f fi ca op
  | .make sz bytes z l c => cMake P vm ss sz bytes z l c op && decide (1 ≤ sz)
  | .slice sz x lo hi => cSlice P vm ss sz x lo hi op
  | .fldAddr off p => cFldAddr P vm ss off p op
  | .fld agg off sz x => cFld P vm ss agg off sz x op
  | .ixAddr sz x i => cIxAddr P vm ss sz x i op
  | .ixStr x i => cIxStr P vm ss x i op
  | .ext x i => cExt vm ss x i op
  | .len st x => cLen P vm ss st x op
  | .minmax mx xs => cMM vm ss mx xs op
  | .pick _ _ _ => false
  | .store _ _ _ => false
  | .call _ _ => false
  | .callp _ _ => false
  | .callv _ _ => false
  | .app _ _ _ _ _ => false
  | .pur _ => false
  | .callw _ _ => false
  | .flat _ => false
  | .trunc _ _ _ => false
  | .movz _ => false
  | .safe _ _ => false

section
variable {F Iow : Nat → Prop} {w0 : World} {g0 : Gh} {o0 : Obs} {g : Gh} {w w' : World} {tmps : Array Value} {ds : List Deferred} {vm ss ss' : List Nat} {s : St} {P : Program} {o : Oper} {key : Nat}

theorem s_newnil (h : FR F g w tmps vm ss s) {sz : Nat} (hc : cNewnil vm ss sz o.op = true) :
    StillPost (SetOf F g s.ob) w g s.ob key ⟨true, .own (keyOf key), [(keyOf key, ⟨sz, []⟩)]⟩ ((execOp ({ tmps := tmps, defers := ds } : Act).eval o).run P w) := by
  have main : ∀ y, chkSrc vm ss y (.c .nilsl) = true → 1 ≤ sz → (execOp ({ tmps := tmps, defers := ds } : Act).eval o).run P w = .ok (.value (({ tmps := tmps, defers := ds } : Act).eval y)) w →
      StillPost (SetOf F g s.ob) w g s.ob key ⟨true, .own (keyOf key), [(keyOf key, ⟨sz, []⟩)]⟩ ((execOp ({ tmps := tmps, defers := ds } : Act).eval o).run P w) := by
    intro y hy hp hr
    have hev := sr_nil (h.src (ds := ds) hy)
    refine ⟨_, w, hr, Same.refl _ _, .inr ⟨keyOf key, ⟨sz, []⟩, w.heap.size, 0, rfl, by simp [keyOf], Nat.le_refl _, fun S' hS => ?_, .inl ⟨rfl, .inr ⟨rfl, hev⟩⟩⟩⟩
    exact ⟨hp, Nat.le_refl _, fun i hi => by simp at hi, fun hp => absurd hp (Nat.lt_irrefl _)⟩
  unfold cNewnil at hc
  split at hc
  · rename_i y he
    simp only [Bool.and_eq_true, decide_eq_true_eq] at hc
    exact main y hc.1 hc.2 (by simp [execOp, he])
  · rename_i y he
    simp only [Bool.and_eq_true, decide_eq_true_eq] at hc
    exact main y hc.1 hc.2 (by simp [execOp, he])
  · cases hc

theorem still_ok (h : FR F g w tmps vm ss s) {a : AOp} (hc : cStill P vm ss o.op a = true) (hok : (stillOp (rd s) s.ob key a).ok = true) :
    StillPost (SetOf F g s.ob) w g s.ob key (stillOp (rd s) s.ob key a) ((execOp ({ tmps := tmps, defers := ds } : Act).eval o).run P w) := by
  cases a <;> simp only [cStill] at hc <;> simp only [stillOp] at hok ⊢ <;> try (cases hc; done)
  case mov => exact s_mov h hc
  case newnil => exact s_newnil h hc
  case alloc => exact s_alloc h hc hok
  case box => exact s_box h hc hok
  case build => exact s_build h hc hok
  case mkSl => exact s_mkSl h hc hok
  case load => exact s_load h hc hok
  case nilck => exact s_nilck h hc hok
  case bin => exact s_bin h hc hok
  case eqA => exact s_eqA h hc hok
  case un => exact s_un h hc hok
  case conv => exact s_conv h hc hok
  case b2s => exact s_b2s h hc hok
  case s2b => exact s_s2b h hc hok
  case mkFn => exact s_mkFn h hc hok
  case make =>
    simp only [Bool.and_eq_true, decide_eq_true_eq] at hc
    exact s_make h hc.1 hok hc.2
  case slice => exact s_slice h hc hok
  case fldAddr => exact s_fldAddr h hc hok
  case fld agg off sz x =>
    simp only [also, Bool.and_eq_true] at hok
    obtain ⟨v, w', hr, hw, hcase⟩ := s_fld (key := key) (ds := ds) h hc hok.2 hok.1
    exact ⟨v, w', hr, hw, hcase⟩
  case ixAddr => exact s_ixAddr h hc hok
  case ixStr => exact s_ixStr h hc hok
  case ext => exact s_ext h hc hok
  case len => exact s_len h hc hok
  case minmax => exact s_mm h hc hok

/-! ### Values with the mark of a condition -/

def un1 : AV → AV
  | .opt true a => a
  | .opt false _ => .any
  | .int k n => .int k n
  | .bool b => .bool b
  | .str l => .str l
  | .cv v => .cv v
  | .agg cs => .agg cs
  | .tup cs => .tup cs
  | .sl sz els => .sl sz els
  | .nilsl => .nilsl
  | .ptr sz els i off => .ptr sz els i off
  | .fn f a b => .fn f a b
  | .own k => .own k
  | .ref k i off => .ref k i off
  | .fresh sz els => .fresh sz els
  | .mem sz els i => .mem sz els i
  | .any => .any

theorem SR.un1 {S : Nat → Prop} {ob : Obs} {v : Value} {a : AV} (h : SR S w g ob v a) : SR S w g ob v (un1 a) := by
  cases a <;> try exact h
  rename_i b a
  cases b
  · exact SR.any
  · simp only [SR, if_true] at h; exact h.toSR

def unS (s : St) : St := { s with vs := s.vs.map un1, st := s.st.map un1 }

theorem FR.unS (h : FR F g w tmps vm ss s) : FR F g w tmps vm ss (unS s) :=
  ⟨h.home, h.inj, h.nF, h.fb, by simpa [Go.Proofs.YtbobhejdijcofaaGreatDoor.unS] using h.vl, by simpa [Go.Proofs.YtbobhejdijcofaaGreatDoor.unS] using h.sl,
    fun i hi => by simp only [Go.Proofs.YtbobhejdijcofaaGreatDoor.unS]; rw [getD_map_any un1 rfl]; exact (h.vs i hi).un1,
    fun i hi => by simp only [Go.Proofs.YtbobhejdijcofaaGreatDoor.unS]; rw [getD_map_any un1 rfl]; exact (h.st i hi).un1, h.fit, h.tab⟩

theorem un1_unopt {a : AV} (h : optOk true a = true) : un1 a = unopt a := by
  cases a <;> try rfl
  rename_i b a
  simp only [optOk, Bool.not_true, Bool.false_or] at h
  subst h; rfl

theorem rd_unS {x : Src} (h : optOk true (rd s x) = true) : rd (unS s) x = rdu s x := by
  cases x
  case c => rfl
  all_goals
    simp only [rd, unS, rdu] at h ⊢
    rw [getD_map_any un1 rfl]
    exact un1_unopt h

theorem stillOp_congr {r r' : Src → AV} {ob : Obs} {d : Nat} {a : AOp} (hg : canGuard a = true) (h : ∀ x, x ∈ opsOf a → r x = r' x) : stillOp r ob d a = stillOp r' ob d a := by
  cases a <;> simp only [canGuard] at hg <;> (try (cases hg; done)) <;> simp only [opsOf] at h <;> simp only [stillOp]
  case slice sz x lo hi =>
    have e1 : lo.map r = lo.map r' := by cases lo <;> simp_all
    have e2 : hi.map r = hi.map r' := by cases hi <;> simp_all
    rw [e1, e2, h x (by simp)]
  case minmax mx xs => rw [List.map_congr_left h]
  case build z ps =>
    have e : (ps.map fun p => (p.1, p.2.1, r p.2.2)) = ps.map fun p => (p.1, p.2.1, r' p.2.2) := List.map_congr_left fun p hp => by rw [h _ (List.mem_map.2 ⟨p, hp, rfl⟩)]
    rw [e]
  case mkSl sz z n ps =>
    have e : (ps.map fun p => (p.1, r p.2)) = ps.map fun p => (p.1, r' p.2) := List.map_congr_left fun p hp => by rw [h _ (List.mem_map.2 ⟨p, hp, rfl⟩)]
    rw [e]
  all_goals simp_all

/-- A value that an operation gives, where the block that it makes is never changed. -/
theorem StillPost.frz (h : FR F g w tmps vm ss s) {m : Mk} {r : Result Next} (hp : StillPost (SetOf F g s.ob) w g s.ob key m r) :
    ∃ v w', r = .ok (.value v) w' ∧ Same (fun _ => False) w w' ∧ SR (SetOf F g s.ob) w' g s.ob v (frzM m).v := by
  obtain ⟨v, w', hr, hw, hcase⟩ := hp
  refine ⟨v, w', hr, hw, ?_⟩
  rcases hcase with ⟨h0, hs⟩ | ⟨k, h', b, cap, e, _, hb, hH, hv⟩
  · simp only [frzM, h0, frzH]; exact hs
  · simp only [frzM, e, frzH]
    have hh := hH (SetOf F g s.ob) fun c hc => .inl hc
    obtain ⟨rr, hcell⟩ := hh.cell
    have hn : 0 < cap → ¬ SetOf F g s.ob b := fun _ c => by have := h.setLt c; omega
    obtain ⟨q1, q2, q3⟩ := hh.sl hcell (fun _ c => c) hn
    rcases hv with ⟨e1, e2⟩ | ⟨e1, e2, e3⟩
    · rw [e1]; simp only [frzV]
      rcases e2 with e2 | ⟨e2, e4⟩
      · rw [e2]; exact q1.toSR
      · rw [e4]; exact (q2 e2).toSR
    · rw [e1, e3]; simp only [frzV]
      have := q3 0 0 e2
      rw [Nat.zero_mul, Nat.zero_add] at this
      exact this.toSR

theorem SR.lone {S : Nat → Prop} {ob : Obs} {v : Value} {a : AV} (h : SR S w g ob v a) (hl : a.lone = true) : SR S w g ob v (.opt true a) := by
  simp only [SR, if_true]
  cases a
  case fn f fi ca =>
    have hat : (AV.fn f fi ca).atoms = true := by simpa [AV.atoms, AV.cells, AV.atom, AV.lone] using hl
    exact h.atoms hat
  all_goals first | exact h | (simp [AV.lone] at hl)

/-- Behind a guarded operation that was run: it gave one value and made no block. -/
theorem FX.guardPut (h : FX F Iow w0 g0 o0 g w tmps vm ss s) (hnd : NdOk vm) {dst : Option Nat} {D : Dst} (hd : chkDst vm ss dst D = some ss') (hfit : ∀ d, dst = some d → d < tmps.size) {m : Mk} {v : Value}
    (hw : Same (fun _ => False) w w') (hv : m.ok = true → m.hs = [] → SR (SetOf F g s.ob) w' g s.ob v m.v) (hok : (putG s true D m).ok = true) :
    FX F Iow w0 g0 o0 g w' (putT tmps dst v) vm ss' (putG s true D m) := by
  have hm : m.ok = true ∧ m.hs = [] ∧ m.v.lone = true := by
    unfold putG at hok
    cases D <;> simpa [putD] using (by simpa [putD] using hok : _ ∧ _).2
  have h1 := (h.toFR.grow hw).put hnd hd hfit (!true || (m.ok && (m.hs.isEmpty && m.v.lone))) (v := v) (a := .opt true m.v) (fun _ => (hv hm.1 hm.2.1).lone hm.2.2)
  have hob : (putG s true D m).ob = s.ob := by cases D <;> rfl
  exact FX.mk' (w := w) h1 h.same (hw.mono fun _ _ c => c.elim) (fun k hk => h.hio k (by rw [hob] at hk; exact hk)) h.fio (by rw [hob]; exact h.par)

theorem FX.guardSkip (h : FX F Iow w0 g0 o0 g w tmps vm ss s) (hnd : NdOk vm) {dst : Option Nat} {D : Dst} (hd : chkDst vm ss dst D = some ss') (hfit : ∀ d, dst = some d → d < tmps.size) {m : Mk} :
    FX F Iow w0 g0 o0 g w (putT tmps dst undef) vm ss' (putG s false D m) := by
  have h1 := h.toFR.put hnd hd hfit (!false || (m.ok && (m.hs.isEmpty && m.v.lone))) (v := undef) (a := .opt false m.v) (fun _ => by simp [SR])
  have hob : (putG s false D m).ob = s.ob := by cases D <;> rfl
  exact FX.mk' (w := w) h1 h.same (Same.refl _ _) (fun k hk => h.hio k (by rw [hob] at hk; exact hk)) h.fio (by rw [hob]; exact h.par)

/-! ### One of two values -/

def cPick (vm ss : List Nat) (c a b : Src) : Op → Bool
  | .pick x y z => chkSrc vm ss x c && (chkSrc vm ss y a && chkSrc vm ss z b)
  | _ => false

theorem mixA_cases (c : Bool) (x y : AV) : mixA c x y = .any ∨ mixA c x y = (bif c then x else y) := by
  unfold mixA
  split
  · right; cases c <;> rfl
  · rename_i k p j q
    by_cases e : k = j
    · subst e
      right
      simp only [beq_self_eq_true, cond_true]
      cases c <;> rfl
    · have : (k == j) = false := by simpa using e
      simp only [this, cond_false]
      exact .inl trivial
  · right; cases c <;> rfl
  · exact .inr rfl

theorem mixA_SR {S : Nat → Prop} {ob : Obs} {v u : Value} {x y : AV} (c : Bool) (hx : c = true → SR S w g ob v x) (hy : c = false → SR S w g ob u y) : SR S w g ob (if c = true then v else u) (mixA c x y) := by
  rcases mixA_cases c x y with e | e
  · rw [e]; exact SR.any
  · rw [e]
    cases c
    · exact hy rfl
    · exact hx rfl

theorem s_pick (h : FR F g w tmps vm ss s) {c a b : Src} (hc : cPick vm ss c a b o.op = true) {ac : AV} (hcv : SR (SetOf F g s.ob) w g s.ob (({ tmps := tmps, defers := ds } : Act).eval (match o.op with | .pick x _ _ => x | _ => .const undef)) ac) (hok : (pickM true (rd s a) (rd s b) ac).ok = true) :
    StillPost (SetOf F g s.ob) w g s.ob key (pickM true (rd s a) (rd s b) ac) ((execOp ({ tmps := tmps, defers := ds } : Act).eval o).run P w) := by
  unfold cPick at hc
  split at hc
  · rename_i x y z he
    simp only [Bool.and_eq_true] at hc
    obtain ⟨h1, h2, h3⟩ := hc
    rw [he] at hcv
    have hva := h.src (ds := ds) h2
    have hvb := h.src (ds := ds) h3
    cases ac <;> simp only [pickM, bad] at hok <;> try (cases hok; done)
    rename_i cb
    have hce := sr_bool hcv
    simp only [pickM, when, Bool.true_and, Bool.and_eq_true] at hok ⊢
    have un : ∀ {v : Value} {q : AV}, SR (SetOf F g s.ob) w g s.ob v q → optOk true q = true → SR (SetOf F g s.ob) w g s.ob v (unopt q) := fun hs ho => by
      rw [← un1_unopt ho]; exact hs.un1
    refine .val (v := if cb = true then ({ tmps := tmps, defers := ds } : Act).eval y else ({ tmps := tmps, defers := ds } : Act).eval z) (by simp only [] at hce; simp [execOp, he, hce, asBool]) rfl (mixA_SR cb (fun e => ?_) (fun e => ?_))
    · subst e; exact un hva hok.1
    · subst e; exact un hvb hok.2
  · cases hc

end

open Go Go.RowKit
set_option linter.unusedSimpArgs false
set_option linter.unusedVariables false

def argSt (args : List AV) : St := { vs := initTm 0 args, st := [], ob := initOb 0 args, ok := true }

/-- A part of a result: a block goes over under its key k. -/
def RV1 (S : Nat → Prop) (w : World) (g : Gh) (ob : Obs) (k : Nat) (v : Value) : AV → Prop
  | .fresh sz els => obGet k ob = some ⟨sz, els⟩ ∧ (v = .slice (some ⟨g.β k, 0, none⟩) els.length (g.cap k) ∨ (g.cap k = 0 ∧ v = .slice none 0 0))
  | .mem sz els _ => obGet k ob = some ⟨sz, els⟩ ∧ (els.length = 1 ∧ v = .pointer (some ⟨g.β k, 0, none⟩))
  | a => VR S w v a

def RV (S : Nat → Prop) (w : World) (g : Gh) (ob : Obs) (κ : Nat → Nat) (v : Value) : AV → Prop
  | .tup as => ∃ vs, v = .tuple vs ∧ vs.size = as.length ∧ ∀ j, j < as.length → RV1 S w g ob (κ (j + 1)) (vs.getD j undef) (as.getD j .any)
  | a => RV1 S w g ob (κ 0) v a

def isFr : AV → Bool
  | .fresh _ _ => true
  | .mem _ _ _ => true
  | _ => false

/-- The places in a result that hold a block. -/
def fpos (r : AV) (i : Nat) : Prop :=
  match r with
  | .tup as => ∃ j, i = j + 1 ∧ j < as.length ∧ isFr (as.getD j .any) = true
  | a => i = 0 ∧ isFr a = true

/-- Scalars alone. -/
def flat1 : AV → Bool
  | .int _ _ => true
  | .bool _ => true
  | .str _ => true
  | _ => false

def flatE (a : AV) : Bool := a.cells.all flat1

def flatB : AV → Bool
  | .fresh _ els => els.all flatE
  | .mem _ els _ => els.all flatE
  | a => flat1 a

def flatA : AV → Bool
  | .tup as => as.all flatB
  | a => flatB a

/-- Behind a call: what the value is, and where the blocks lie. -/
structure Back (F : Nat → Prop) (g0 : Gh) (args : List AV) (modes : List Md) (w : World) (v : Value) (w' : World) (r : AV) (outs : List AV) (g : Gh) (ob : Obs) (κ : Nat → Nat) : Prop where
  same : Same (fun b => ∃ k, liv g0 (initOb 0 args) k ∧ g0.β k = b) w w'
  home : ∀ k h, obGet k ob = some h → Home (SetOf F g ob) w' (g.β k) (g.cap k) h.sz h.els
  inj : ∀ k k', liv g ob k → liv g ob k' → g.β k = g.β k' → k = k'
  nF : ∀ k, liv g ob k → ¬ F (g.β k)
  hio : ∀ k, liv g ob k → w.heap.size ≤ g.β k ∨ ∃ k', liv g0 (initOb 0 args) k' ∧ g0.β k' = g.β k
  val : RV (SetOf F g ob) w' g ob κ v r
  κinj : ∀ i j, fpos r i → fpos r j → κ i = κ j → i = j
  κio : ∀ i j, fpos r i → modes[j]? = some .io → κ i ≠ paramKey j
  out : ∀ j, modes[j]? = some .io → ∃ sz e0 els, ((args.getD j .any = .fresh sz e0 ∧ outs.getD j .any = .fresh sz els) ∨ (∃ i i', args.getD j .any = .mem sz e0 i ∧ outs.getD j .any = .mem sz els i')) ∧
    els.length = e0.length ∧ obGet (paramKey j) ob = some ⟨sz, els⟩ ∧ g.β (paramKey j) = g0.β (paramKey j) ∧ g.cap (paramKey j) = g0.cap (paramKey j)

/-- A function is called, or an entry of the model stands for it. -/
def Invokes (P : Program) (f : FuncId) (args : Array Value) (w : World) (R : Ending → World → Prop) : Prop :=
  match (callFunc f args).run P w with
  | .ok (.value v) w' => R (.returned v) w'
  | .ok (.enter f' args') w' => Calls P f' args' w' R
  | _ => False

def noIo (ms : List Md) : Bool := ms.all fun m => !(m == .io)

def Sound (P : Program) (f : FuncId) (C : Ctr) : Prop :=
  (C.flat = true → noIo C.modes = true) ∧
  ∀ (F : Nat → Prop) (g0 : Gh) (w : World) (args : List AV) (vargs : Array Value), shapes C.modes args = true → vargs.size = args.length →
    FR F g0 w vargs (List.range args.length) [] (argSt args) → (C.F args).ok = true →
    (C.flat = true → flatA (C.F args).r = true) ∧
    Invokes P f vargs w fun e w' => ∃ v g ob κ, e = .returned v ∧ Back F g0 args C.modes w v w' (C.F args).r (C.F args).outs g ob κ

theorem flat1_VR {S S' : Nat → Prop} {w w' : World} {v : Value} {a : AV} (hf : flat1 a = true) (h : VR S w v a) : VR S' w' v a := by
  cases a <;> simp [flat1] at hf <;> cases h <;> constructor

/-! ### The blocks of the arguments -/

def fmHm : AV → Option Hm
  | .fresh sz els => some ⟨sz, els⟩
  | .mem sz els _ => some ⟨sz, els⟩
  | _ => none

theorem paramKey_inj {i j : Nat} (h : paramKey i = paramKey j) : i = j := by unfold paramKey at h; omega

theorem initOb_get (k : Nat) : ∀ (args : List AV) (i : Nat), obGet k (initOb i args) = if k % 32 = 31 ∧ i ≤ k / 32 then fmHm (args.getD (k / 32 - i) .any) else none
  | [], i => by simp [initOb, obGet, fmHm]
  | a :: r, i => by
    have ih := initOb_get k r (i + 1)
    have step : ∀ h : Hm, obGet k ((paramKey i, h) :: initOb (i + 1) r) = if k % 32 = 31 ∧ i ≤ k / 32 then (if k / 32 = i then some h else fmHm ((a :: r).getD (k / 32 - i) .any)) else none := by
      intro h
      simp only [obGet, cond_eq_if, beq_iff_eq, ih]
      by_cases e : paramKey i = k
      · subst e
        have h1 : (32 * i + 31) % 32 = 31 := by omega
        have h2 : (32 * i + 31) / 32 = i := by omega
        simp [paramKey, h1, h2]
      · rw [if_neg e]
        by_cases e1 : k % 32 = 31
        · have hne : k / 32 ≠ i := fun e2 => e (by unfold paramKey; omega)
          by_cases e3 : i ≤ k / 32
          · rw [if_pos ⟨e1, by omega⟩, if_pos ⟨e1, e3⟩, if_neg hne, show k / 32 - i = (k / 32 - (i + 1)) + 1 by omega, List.getD_cons_succ]
          · rw [if_neg (by omega), if_neg (by omega)]
        · rw [if_neg (by omega), if_neg (by omega)]
    have skip : fmHm a = none → obGet k (initOb (i + 1) r) = if k % 32 = 31 ∧ i ≤ k / 32 then fmHm ((a :: r).getD (k / 32 - i) .any) else none := by
      intro h0
      rw [ih]
      by_cases e1 : k % 32 = 31
      · by_cases e3 : i ≤ k / 32
        · by_cases e4 : k / 32 = i
          · rw [if_neg (by omega), if_pos ⟨e1, e3⟩, e4, Nat.sub_self, List.getD_cons_zero, h0]
          · rw [if_pos ⟨e1, by omega⟩, if_pos ⟨e1, e3⟩, show k / 32 - i = (k / 32 - (i + 1)) + 1 by omega, List.getD_cons_succ]
        · rw [if_neg (by omega), if_neg (by omega)]
      · rw [if_neg (by omega), if_neg (by omega)]
    have fin : ∀ sz els, fmHm a = some ⟨sz, els⟩ → obGet k ((paramKey i, ⟨sz, els⟩) :: initOb (i + 1) r) = if k % 32 = 31 ∧ i ≤ k / 32 then fmHm ((a :: r).getD (k / 32 - i) .any) else none := by
      intro sz els h0
      rw [step]
      by_cases e : k % 32 = 31 ∧ i ≤ k / 32
      · rw [if_pos e, if_pos e]
        by_cases e4 : k / 32 = i
        · rw [if_pos e4, e4, Nat.sub_self, List.getD_cons_zero, h0]
        · rw [if_neg e4]
      · rw [if_neg e, if_neg e]
    cases a
    case fresh sz els => exact fin sz els rfl
    case mem sz els _ => exact fin sz els rfl
    all_goals exact skip rfl

theorem initOb_paramKey {args : List AV} {j : Nat} : obGet (paramKey j) (initOb 0 args) = fmHm (args.getD j .any) := by
  rw [initOb_get, if_pos (by unfold paramKey; omega)]
  congr 2
  unfold paramKey; omega

theorem initOb_key {args : List AV} {k : Nat} {h : Hm} (hg : obGet k (initOb 0 args) = some h) : ∃ j, k = paramKey j ∧ fmHm (args.getD j .any) = some h := by
  rw [initOb_get] at hg
  split at hg
  · rename_i e; exact ⟨k / 32, by unfold paramKey; omega, by simpa using hg⟩
  · cases hg

def initA (j : Nat) : AV → AV
  | .fresh _ _ => .own (paramKey j)
  | .mem _ _ i => .ref (paramKey j) i 0
  | a => a

theorem initTm_get : ∀ (args : List AV) (i j : Nat), j < args.length → (initTm i args).getD j .any = initA (i + j) (args.getD j .any)
  | [], _, _, h => by simp at h
  | a :: r, i, 0, _ => by cases a <;> rfl
  | a :: r, i, j + 1, h => by
    have ih := initTm_get r (i + 1) j (by simpa using h)
    rw [show i + (j + 1) = i + 1 + j by omega, List.getD_cons_succ, ← ih]
    cases a <;> rfl

theorem initTm_len : ∀ (args : List AV) (i : Nat), (initTm i args).length = args.length
  | [], _ => rfl
  | a :: r, i => by
    have ih := initTm_len r (i + 1)
    cases a <;> simp [initTm, ih]


open Go Go.RowKit
set_option linter.unusedSimpArgs false
set_option linter.unusedVariables false

def kk (as : List AV) (j : Nat) : Nat := (as.getD j .any).key1.headD 0

/-- The ghost of the callee: where the blocks of its parameters lie. -/
def callGh (g : Gh) (as : List AV) : Gh := ⟨fun k => g.β (kk as (k / 32)), fun k => g.cap (kk as (k / 32))⟩

theorem paramKey_div (j : Nat) : paramKey j / 32 = j := by unfold paramKey; omega

theorem handArgs_get (ob : Obs) : ∀ (ms : List Md) (as : List AV) (j : Nat), ms.length = as.length → j < as.length → (handArgs ob ms as).getD j .any = handArg ob (ms.getD j .bor) (as.getD j .any)
  | [], [], _, _, h => by simp at h
  | [], _ :: _, _, h, _ => by simp at h
  | _ :: _, [], _, h, _ => by simp at h
  | m :: ms, a :: as, 0, _, _ => by simp [handArgs]
  | m :: ms, a :: as, j + 1, h, hj => by
    simp only [handArgs, List.getD_cons_succ]
    exact handArgs_get ob ms as j (by simpa using h) (by simpa using hj)

theorem handArgs_len (ob : Obs) : ∀ (ms : List Md) (as : List AV), ms.length = as.length → (handArgs ob ms as).length = as.length
  | [], [], _ => rfl
  | [], _ :: _, h => by simp at h
  | _ :: _, [], h => by simp at h
  | m :: ms, a :: as, h => by simp [handArgs, handArgs_len ob ms as (by simpa using h)]

theorem shapes_get : ∀ (ms : List Md) (as : List AV), shapes ms as = true → ms.length = as.length ∧ ∀ j, j < as.length →
    (ms.getD j .bor = .bor → isFM (as.getD j .any) = false) ∧ (ms.getD j .bor = .io → isFM (as.getD j .any) = true) ∧ (ms.getD j .bor = .mov → isFM (as.getD j .any) = true ∨ isNil (as.getD j .any) = true)
  | [], [], _ => ⟨rfl, fun j hj => by simp at hj⟩
  | [], _ :: _, h => by simp [shapes] at h
  | m :: _, [], h => by cases m <;> simp [shapes] at h
  | m :: ms, a :: as, h => by
    have key : shapes ms as = true ∧ ((m = .bor → isFM a = false) ∧ (m = .io → isFM a = true) ∧ (m = .mov → isFM a = true ∨ isNil a = true)) := by
      cases m <;> simp only [shapes, Bool.and_eq_true, Bool.or_eq_true, Bool.not_eq_true'] at h <;> refine ⟨h.2, ?_⟩ <;> simp [h.1]
    obtain ⟨h1, h2⟩ := key
    obtain ⟨i1, i2⟩ := shapes_get ms as h1
    refine ⟨by simp [i1], fun j hj => ?_⟩
    cases j with
    | zero => simpa using h2
    | succ j => simpa using i2 j (by simpa using hj)

theorem ioKeys_mem : ∀ (ms : List Md) (as : List AV) (j : Nat), ms.length = as.length → j < as.length → ms.getD j .bor ≠ .bor → ∀ k, k ∈ (as.getD j .any).key1 → k ∈ ioKeys ms as
  | [], [], _, _, h, _, _, _ => by simp at h
  | [], _ :: _, _, h, _, _, _, _ => by simp at h
  | _ :: _, [], _, h, _, _, _, _ => by simp at h
  | m :: ms, a :: as, 0, _, _, hm, k, hk => by
    cases m <;> simp at hm <;> simp only [ioKeys, List.mem_append] <;> exact .inl (by simpa using hk)
  | m :: ms, a :: as, j + 1, h, hj, hm, k, hk => by
    have := ioKeys_mem ms as j (by simpa using h) (by simpa using hj) (by simpa using hm) k (by simpa using hk)
    cases m <;> simp only [ioKeys, List.mem_append] <;> first | exact this | exact .inr this

theorem borKeys_mem : ∀ (ms : List Md) (as : List AV) (j : Nat), ms.length = as.length → j < as.length → ms.getD j .bor = .bor → ∀ k, k ∈ (as.getD j .any).keys → k ∈ borKeys ms as
  | [], [], _, _, h, _, _, _ => by simp at h
  | [], _ :: _, _, h, _, _, _, _ => by simp at h
  | _ :: _, [], _, h, _, _, _, _ => by simp at h
  | m :: ms, a :: as, 0, _, _, hm, k, hk => by
    cases m <;> simp at hm
    simp only [borKeys, List.mem_append]; exact .inl (by simpa using hk)
  | m :: ms, a :: as, j + 1, h, hj, hm, k, hk => by
    have := borKeys_mem ms as j (by simpa using h) (by simpa using hj) (by simpa using hm) k (by simpa using hk)
    cases m <;> simp only [borKeys, List.mem_append] <;> first | exact this | exact .inr this

theorem distinct_cons {k : Nat} {r : List Nat} (h : distinct (k :: r) = true) : k ∉ r ∧ distinct r = true := by
  simp only [distinct, Bool.and_eq_true, Bool.not_eq_true', List.any_eq_false, beq_iff_eq] at h
  exact ⟨fun hk => h.1 k hk rfl, h.2⟩

theorem distinct_app {l r : List Nat} (h : distinct (l ++ r) = true) : distinct r = true ∧ ∀ k, k ∈ l → k ∉ r := by
  induction l with
  | nil => exact ⟨h, fun k hk => by simp at hk⟩
  | cons a l ih =>
    obtain ⟨h1, h2⟩ := distinct_cons h
    obtain ⟨i1, i2⟩ := ih h2
    refine ⟨i1, fun k hk => ?_⟩
    rcases List.mem_cons.1 hk with e | hk
    · rw [e]; exact fun c => h1 (List.mem_append.2 (.inr c))
    · exact i2 k hk

theorem ioKeys_ne : ∀ (ms : List Md) (as : List AV) (i j : Nat), ms.length = as.length → distinct (ioKeys ms as) = true → i < j → j < as.length → ms.getD i .bor ≠ .bor → ms.getD j .bor ≠ .bor → ∀ k, k ∈ (as.getD i .any).key1 → k ∈ (as.getD j .any).key1 → False
  | [], [], _, _, _, _, _, h, _, _, _, _, _ => by simp at h
  | [], _ :: _, _, _, h, _, _, _, _, _, _, _, _ => by simp at h
  | _ :: _, [], _, _, h, _, _, _, _, _, _, _, _ => by simp at h
  | m :: ms, a :: as, 0, j + 1, hl, hd, _, hj, hi, hjm, k, h1, h2 => by
    have h3 := ioKeys_mem ms as j (by simpa using hl) (by simpa using hj) (by simpa using hjm) k (by simpa using h2)
    have hd' : distinct (a.key1 ++ ioKeys ms as) = true := by cases m <;> simp at hi <;> simpa [ioKeys] using hd
    exact (distinct_app hd').2 k (by simpa using h1) h3
  | m :: ms, a :: as, i + 1, j + 1, hl, hd, hij, hj, hi, hjm, k, h1, h2 => by
    have hd' : distinct (ioKeys ms as) = true := by
      cases m
      · simpa [ioKeys] using hd
      · exact (distinct_app (by simpa [ioKeys] using hd)).1
      · exact (distinct_app (by simpa [ioKeys] using hd)).1
    exact ioKeys_ne ms as i j (by simpa using hl) hd' (by omega) (by simpa using hj) (by simpa using hi) (by simpa using hjm) k (by simpa using h1) (by simpa using h2)
  | _ :: _, _ :: _, 0, 0, _, _, h, _, _, _, _, _, _ => by omega
  | _ :: _, _ :: _, _ + 1, 0, _, _, h, _, _, _, _, _, _ => by omega

theorem apart_ne {ks bs : List Nat} (h : apart ks bs = true) {k : Nat} (h1 : k ∈ ks) (h2 : k ∈ bs) : False := by
  simp only [apart, List.all_eq_true, Bool.not_eq_true', List.any_eq_false, beq_iff_eq] at h
  exact h k h1 k h2 rfl

/-- What is handed over to be written: its block. -/
theorem hand_fm {ob : Obs} {m : Md} {a : AV} {hm : Hm} (h : fmHm (handArg ob m a) = some hm) (hm0 : m = .bor → isFM (handArg ob m a) = false) :
    m ≠ .bor ∧ ∃ k, (a = .own k ∧ handArg ob m a = .fresh hm.sz hm.els ∨ ∃ i, a = .ref k i 0 ∧ handArg ob m a = .mem hm.sz hm.els i) ∧ obGet k ob = some hm ∧ k ∈ a.key1 := by
  have hnb : m ≠ .bor := by
    intro e
    have h0 := hm0 e
    revert h h0
    generalize handArg ob m a = x
    intro h h0
    cases x <;> simp [fmHm, isFM] at h h0
  refine ⟨hnb, ?_⟩
  have hio : handArg ob m a = ioArg ob a := by cases m <;> first | exact absurd rfl hnb | rfl
  rw [hio] at h ⊢
  cases a
  case own k =>
    simp only [ioArg] at h ⊢
    cases ho : obGet k ob with
    | none => rw [ho] at h; simp [freshO, fmHm] at h
    | some h' =>
      rw [ho] at h
      simp only [freshO, fmHm, Option.some.injEq] at h
      exact ⟨k, .inl ⟨rfl, by simp [freshO, ← h]⟩, by rw [ho, ← h], by simp [AV.key1]⟩
  case ref k i off =>
    rcases Nat.eq_zero_or_pos off with hof | hof
    · subst hof
      simp only [ioArg] at h ⊢
      cases ho : obGet k ob with
      | none => rw [ho] at h; simp [memO, fmHm] at h
      | some h' =>
        rw [ho] at h
        simp only [memO, fmHm, Option.some.injEq] at h
        subst h
        exact ⟨k, .inr ⟨i, rfl, by simp [memO]⟩, ho, by simp [AV.key1]⟩
    · obtain ⟨n, rfl⟩ : ∃ n, off = n + 1 := ⟨off - 1, by omega⟩
      simp [ioArg, fmHm] at h
  all_goals simp [ioArg, fmHm] at h

section
variable {F Iow : Nat → Prop} {w0 : World} {g0 : Gh} {o0 : Obs} {g : Gh} {w w' : World} {tmps : Array Value} {ds : List Deferred} {vm ss ss' : List Nat} {s : St} {P : Program} {o : Oper} {key : Nat}

/-- A value that is lent: read as it stands. -/
theorem FR.dv1 (h : FR F g w tmps vm ss s) {S' : Nat → Prop} (hS : ∀ b, S' b → SetOf F g s.ob b) {v : Value} {a : AV} (hk : ∀ k, k ∈ a.key1 → ∀ b, S' b → 0 < g.cap k → inOb s.ob k → b ≠ g.β k) (ha : SR1 (SetOf F g s.ob) w g s.ob v a) : VR S' w v (a.dv1 s.ob) := by
  cases a
  case own k =>
    obtain ⟨hm, ho, e⟩ := ha
    simp only [AV.dv1, ho, slOf]
    rcases e with e | ⟨hz, e⟩
    · rw [e]; exact (h.sl_of ho fun b hb => ⟨hS b hb, fun hp => hk k (by simp [AV.key1]) b hb hp ⟨hm, ho⟩⟩).1
    · rw [e, h.nil_els ho hz]
      exact .sl 0 0 (fun _ _ => undef) rfl (Nat.le_refl _) (h.home k hm ho).pos (fun hp => by simp at hp) (fun i hi => by simp at hi) (fun i j hi _ => by simp at hi) (fun i j hi _ => by simp at hi)
  case ref k i off =>
    obtain ⟨hm, ho, hi, e⟩ := ha
    simp only [AV.dv1, ho, ptrOf]
    rw [e]; exact (h.sl_of ho fun b hb => ⟨hS b hb, fun hp => hk k (by simp [AV.key1]) b hb hp ⟨hm, ho⟩⟩).2 i off hi |>.narrow
  case ptr sz els i off => exact (VR.mono (Same.refl _ _) (fun b _ c => hS b c) ha : VR S' w v (.ptr sz els i off)).narrow
  case fresh => exact .any
  case mem => exact .any
  case opt => exact .any
  case any => exact .any
  all_goals exact VR.mono (Same.refl _ _) (fun b _ c => hS b c) ha

theorem FR.dv (h : FR F g w tmps vm ss s) {S' : Nat → Prop} (hS : ∀ b, S' b → SetOf F g s.ob b) {v : Value} {a : AV} (hk : ∀ k, k ∈ a.keys → ∀ b, S' b → 0 < g.cap k → inOb s.ob k → b ≠ g.β k) (ha : SR (SetOf F g s.ob) w g s.ob v a) : VR S' w v (a.dv s.ob) := by
  have hl : ∀ (l : List AV) j, (l.map (AV.dv1 s.ob)).getD j .any = (l.getD j .any).dv1 s.ob := fun l j => getD_map_any _ rfl l j
  cases a
  case fn f a1 a2 =>
    obtain ⟨v1, v2, rfl, n1, n2, h1, h2⟩ := ha
    refine .fn (by simpa using n1) (by simpa using n2) (fun j hj => ?_) (fun j hj => ?_)
    · rw [hl]
      exact h.dv1 hS (fun k hkk => hk k (by simp only [AV.keys, List.flatMap_append, List.mem_append]; exact .inl (mem_flatMap_getD (by simpa using hj) hkk))) (h1 j (by simpa using hj))
    · rw [hl]
      exact h.dv1 hS (fun k hkk => hk k (by simp only [AV.keys, List.flatMap_append, List.mem_append]; exact .inr (mem_flatMap_getD (by simpa using hj) hkk))) (h2 j (by simpa using hj))
  case own k => exact h.dv1 (a := .own k) hS (fun k' hkk => hk k' hkk) ha
  case ref k i off => exact h.dv1 (a := .ref k i off) hS (fun k' hkk => hk k' hkk) ha
  case ptr sz els i off => exact h.dv1 (a := .ptr sz els i off) hS (fun k' hkk => hk k' hkk) ha
  case tup => exact .any
  case fresh => exact .any
  case mem => exact .any
  case opt => exact .any
  case any => exact .any
  all_goals exact VR.mono (Same.refl _ _) (fun b _ c => hS b c) ha

/-- The frame in which a callee begins. -/
theorem FR.args (h : FR F g w tmps vm ss s) {vals : Array Value} {as : List AV} {ms : List Md} (hsz : vals.size = as.length) (hv : ∀ j, j < as.length → SR (SetOf F g s.ob) w g s.ob (vals.getD j undef) (as.getD j .any))
    (hd : distinct (ioKeys ms as) = true) (hap : apart (ioKeys ms as) (borKeys ms as) = true) (hlen : ms.length = as.length) (hsh : shapes ms (handArgs s.ob ms as) = true)
    {Fc : Nat → Prop} (hFc : ∀ b, Fc b → SetOf F g s.ob b ∧ ∀ k, (k ∈ ioKeys ms as ∨ k ∈ borKeys ms as) → liv g s.ob k → g.β k ≠ b) :
    FR Fc (callGh g as) w vals (List.range as.length) [] (argSt (handArgs s.ob ms as)) := by
  obtain ⟨_, hsg⟩ := shapes_get _ _ hsh
  have hhl := handArgs_len s.ob ms as hlen
  rw [hhl] at hsg
  -- the blocks of the parameters
  have blk : ∀ k hm, obGet k (initOb 0 (handArgs s.ob ms as)) = some hm → ∃ j k0, k = paramKey j ∧ j < as.length ∧ ms.getD j .bor ≠ .bor ∧ obGet k0 s.ob = some hm ∧ k0 ∈ (as.getD j .any).key1 ∧ kk as j = k0 ∧ k0 ∈ ioKeys ms as := by
    intro k hm hg
    obtain ⟨j, rfl, hf⟩ := initOb_key hg
    have hj : j < as.length := by
      rcases Nat.lt_or_ge j as.length with h' | h'
      · exact h'
      · rw [List.getD_eq_getElem?_getD, List.getElem?_eq_none (by rw [hhl]; exact h')] at hf; simp [fmHm] at hf
    rw [handArgs_get _ _ _ _ hlen hj] at hf
    have hs := hsg j hj
    rw [handArgs_get _ _ _ _ hlen hj] at hs
    obtain ⟨h1, k0, h2, h3, h4⟩ := hand_fm hf (fun e => hs.1 e)
    refine ⟨j, k0, rfl, hj, h1, h3, h4, ?_, ioKeys_mem ms as j hlen hj h1 k0 h4⟩
    unfold kk
    rcases h2 with ⟨e, _⟩ | ⟨_, e, _⟩ <;> rw [e] <;> rfl
  have gk : ∀ j, (callGh g as).β (paramKey j) = g.β (kk as j) ∧ (callGh g as).cap (paramKey j) = g.cap (kk as j) := fun j => by
    simp [callGh, paramKey_div]
  have sub : ∀ b, SetOf Fc (callGh g as) (initOb 0 (handArgs s.ob ms as)) b → SetOf F g s.ob b := by
    intro b hb
    rcases hb with hb | ⟨k, ⟨⟨hm, hg⟩, hp⟩, e⟩
    · exact (hFc b hb).1
    · obtain ⟨j, k0, rfl, hj, _, ho, _, ek, _⟩ := blk k hm hg
      rw [(gk j).1, ek] at e
      rw [(gk j).2, ek] at hp
      exact .inr ⟨k0, ⟨⟨hm, ho⟩, hp⟩, e⟩
  have apb : ∀ k, k ∈ borKeys ms as → ∀ b, SetOf Fc (callGh g as) (initOb 0 (handArgs s.ob ms as)) b → 0 < g.cap k → inOb s.ob k → b ≠ g.β k := by
    intro k hk b hb hp hin e
    rcases hb with hb | ⟨k', ⟨⟨hm, hg⟩, hp'⟩, e'⟩
    · exact (hFc b hb).2 k (.inr hk) ⟨hin, hp⟩ e.symm
    · obtain ⟨j, k0, rfl, hj, _, ho, _, ek, hio⟩ := blk k' hm hg
      rw [(gk j).1, ek] at e'
      rw [(gk j).2, ek] at hp'
      have := h.inj k0 k ⟨⟨hm, ho⟩, hp'⟩ ⟨hin, hp⟩ (by rw [e', e])
      subst this
      exact apart_ne hap hio hk
  refine ⟨fun k hm hg => ?_, fun k k' hk hk' e => ?_, fun k hk => ?_, fun b hb => h.setLt (hFc b hb).1, ?_, rfl, fun j hj => ?_, fun j hj => by simp at hj, fun t ht => ?_, h.tab.mono (Same.refl _ _) fun b _ c => sub b c⟩
  · obtain ⟨j, k0, rfl, hj, _, ho, _, ek, _⟩ := blk k hm hg
    rw [(gk j).1, (gk j).2, ek]
    exact (h.home k0 hm ho).mono (Same.refl _ _) (fun _ => rfl) fun b _ c => sub b c
  · obtain ⟨⟨hm, hg⟩, hp⟩ := hk
    obtain ⟨⟨hm', hg'⟩, hp'⟩ := hk'
    obtain ⟨j, k0, rfl, hj, hjm, ho, hkey, ek, _⟩ := blk k hm hg
    obtain ⟨j', k0', rfl, hj', hjm', ho', hkey', ek', _⟩ := blk k' hm' hg'
    rw [(gk j).1, (gk j').1, ek, ek'] at e
    rw [(gk j).2, ek] at hp
    rw [(gk j').2, ek'] at hp'
    have := h.inj k0 k0' ⟨⟨hm, ho⟩, hp⟩ ⟨⟨hm', ho'⟩, hp'⟩ e
    subst this
    congr 1
    rcases Nat.lt_trichotomy j j' with hlt | heq | hlt
    · exact (ioKeys_ne ms as j j' hlen hd hlt hj' hjm hjm' k0 hkey hkey').elim
    · exact heq
    · exact (ioKeys_ne ms as j' j hlen hd hlt hj hjm' hjm k0 hkey' hkey).elim
  · obtain ⟨⟨hm, hg⟩, hp⟩ := hk
    obtain ⟨j, k0, rfl, hj, hjm, ho, hkey, ek, hio⟩ := blk k hm hg
    rw [(gk j).1, ek]
    rw [(gk j).2, ek] at hp
    exact fun hf => (hFc _ hf).2 k0 (.inl hio) ⟨⟨hm, ho⟩, hp⟩ rfl
  · simp [argSt, initTm_len, hhl]
  · have hj' : j < as.length := by simpa using hj
    have e1 : (List.range as.length).getD j 0 = j := by rw [List.getD_eq_getElem?_getD, List.getElem?_range hj']; rfl
    rw [e1]
    simp only [argSt]
    rw [initTm_get _ 0 j (by rw [hhl]; exact hj'), Nat.zero_add]
    have hs := hsg j hj'
    have hvj := hv j hj'
    have hget := handArgs_get s.ob ms as j hlen hj'
    rw [hget] at hs ⊢
    by_cases hb : ms.getD j .bor = .bor
    · have hnf := hs.1 hb
      have e2 : initA j (handArg s.ob (ms.getD j .bor) (as.getD j .any)) = handArg s.ob (ms.getD j .bor) (as.getD j .any) := by
        revert hnf
        generalize handArg s.ob (ms.getD j .bor) (as.getD j .any) = x
        intro hnf
        cases x <;> first | rfl | (simp [isFM] at hnf)
      rw [e2, hb]
      refine VR.toSR (h.dv sub (fun k hk b hbb hp hin => apb k (borKeys_mem ms as j hlen hj' hb k hk) b hbb hp hin) hvj)
    · cases hf : fmHm (handArg s.ob (ms.getD j .bor) (as.getD j .any)) with
      | some hm =>
        obtain ⟨_, k0, h2, h3, h4⟩ := hand_fm hf (fun e => absurd e hb)
        have hpk : obGet (paramKey j) (initOb 0 (handArgs s.ob ms as)) = some hm := by rw [initOb_paramKey, hget, hf]
        rcases h2 with ⟨e, e2⟩ | ⟨i, e, e2⟩
        · rw [e2]
          rw [e] at hvj
          obtain ⟨hm', ho, hval⟩ := hvj
          rw [h3] at ho; cases ho
          have ek : kk as j = k0 := by unfold kk; rw [e]; rfl
          exact ⟨hm, hpk, by rw [(gk j).1, (gk j).2, ek]; exact hval⟩
        · rw [e2]
          rw [e] at hvj
          obtain ⟨hm', ho, hi, hval⟩ := hvj
          rw [h3] at ho; cases ho
          have ek : kk as j = k0 := by unfold kk; rw [e]; rfl
          exact ⟨hm, hpk, hi, by rw [(gk j).1, ek]; exact hval⟩
      | none =>
        have hnil : isNil (handArg s.ob (ms.getD j .bor) (as.getD j .any)) = true := by
          cases hm0 : ms.getD j .bor with
          | bor => exact absurd hm0 hb
          | io =>
            have := hs.2.1 hm0
            revert this hf
            rw [hm0]
            generalize handArg s.ob .io (as.getD j .any) = x
            intro hf this
            cases x <;> simp [isFM, fmHm] at this hf
          | mov =>
            rcases hs.2.2 hm0 with this | this
            · revert this hf
              rw [hm0]
              generalize handArg s.ob .mov (as.getD j .any) = x
              intro hf this
              cases x <;> simp [isFM, fmHm] at this hf
            · rw [hm0] at this; exact this
        have hx : handArg s.ob (ms.getD j .bor) (as.getD j .any) = .nilsl := by
          revert hnil
          generalize handArg s.ob (ms.getD j .bor) (as.getD j .any) = x
          intro hnil
          cases x <;> simp [isNil] at hnil
          rfl
        have ha : as.getD j .any = .nilsl := by
          have hio : handArg s.ob (ms.getD j .bor) (as.getD j .any) = ioArg s.ob (as.getD j .any) := by
            cases hm0 : ms.getD j .bor <;> first | exact absurd hm0 hb | rfl
          rw [hio] at hx
          revert hx
          generalize as.getD j .any = x
          intro hx
          cases x
          case own k => simp only [ioArg] at hx; cases ho : obGet k s.ob <;> rw [ho] at hx <;> simp [freshO] at hx
          case ref k i off =>
            rcases Nat.eq_zero_or_pos off with hof | hof
            · subst hof
              simp only [ioArg] at hx
              revert hx
              generalize obGet k s.ob = y
              intro hx
              cases y <;> simp [memO] at hx
            · obtain ⟨n, rfl⟩ : ∃ n, off = n + 1 := ⟨off - 1, by omega⟩
              simp [ioArg] at hx
          case nilsl => rfl
          all_goals simp [ioArg] at hx
        rw [hx]
        rw [ha] at hvj
        have := sr_nil hvj
        rw [this]
        exact VR.toSR .nilsl
  · rcases ht with ht | ht
    · rw [hsz]; simpa using ht
    · simp at ht

end

end Go.Proofs.YtbobhejdijcofaaGreatDoor
