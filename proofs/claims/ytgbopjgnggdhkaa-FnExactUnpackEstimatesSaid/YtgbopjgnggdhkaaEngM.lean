/- Operations by their kind; what stands behind a guard. No condition. -/
import Derived.Test.YtgbopjgnggdhkaaEngL
namespace Go.Proofs.Ytgbopjgnggdhkaa
open Go Go.RowKit
set_option linter.unusedSimpArgs false
set_option linter.unusedVariables false

def cNewnil (vm ss : List Nat) (sz : Nat) : Op → Bool
  | .move y => chkSrc vm ss y (.c .nilsl) && decide (1 ≤ sz)
  | .assign y => chkSrc vm ss y (.c .nilsl) && decide (1 ≤ sz)
  | _ => false

def cStill (P : Program) (vm ss : List Nat) (op : Op) : AOp → Bool
  | .mov x => cMov vm ss x op
  | .newnil sz => cNewnil vm ss sz op
  | .alloc z => cAlloc P z op
  | .box x => cBox vm ss x op
  | .build z ps => cBuild P vm ss z ps op
  | .mkSl sz z n ps => cMkSl P vm ss sz z n ps op
  | .load agg sz p => cLoad P vm ss agg sz p op
  | .nilck x => cNilck vm ss x op
  | .bin bl u x y => cBin P vm ss bl u x y op
  | .eqA neg ks x y => cEqA P vm ss neg ks x y op
  | .un u x => cUn vm ss u x op
  | .conv k x => cConv P vm ss k x op
  | .b2s x => cB2s P vm ss x op
  | .s2b x => cS2b P vm ss x op
  | .mkFn f fi ca => cMkFn vm ss f fi ca op
  | .make sz bytes z l c => cMake P vm ss sz bytes z l c op && decide (1 ≤ sz)
  | .slice sz x lo hi => cSlice P vm ss sz x lo hi op
  | .fldAddr off p => cFldAddr P vm ss off p op
  | .fld agg off sz x => cFld P vm ss agg off sz x op
  | .ixAddr sz x i => cIxAddr P vm ss sz x i op
  | .ixStr x i => cIxStr P vm ss x i op
  | .ext x i => cExt vm ss x i op
  | .len st x => cLen P vm ss st x op
  | .minmax mx xs => cMM vm ss mx xs op
  | .pick _ _ _ => false
  | .store _ _ _ => false
  | .call _ _ => false
  | .callp _ _ => false
  | .callv _ _ => false
  | .app _ _ _ _ _ => false
  | .pur _ => false
  | .callw _ _ => false

section
variable {F Iow : Nat → Prop} {w0 : World} {g0 : Gh} {o0 : Obs} {g : Gh} {w w' : World} {tmps : Array Value} {ds : List Deferred} {vm ss ss' : List Nat} {s : St} {P : Program} {o : Oper} {key : Nat}

theorem s_newnil (h : FR F g w tmps vm ss s) {sz : Nat} (hc : cNewnil vm ss sz o.op = true) :
    StillPost (SetOf F g s.ob) w g s.ob key ⟨true, .own (keyOf key), [(keyOf key, ⟨sz, []⟩)]⟩ ((execOp ({ tmps := tmps, defers := ds } : Act).eval o).run P w) := by
  have main : ∀ y, chkSrc vm ss y (.c .nilsl) = true → 1 ≤ sz → (execOp ({ tmps := tmps, defers := ds } : Act).eval o).run P w = .ok (.value (({ tmps := tmps, defers := ds } : Act).eval y)) w →
      StillPost (SetOf F g s.ob) w g s.ob key ⟨true, .own (keyOf key), [(keyOf key, ⟨sz, []⟩)]⟩ ((execOp ({ tmps := tmps, defers := ds } : Act).eval o).run P w) := by
    intro y hy hp hr
    have hev := sr_nil (h.src (ds := ds) hy)
    refine ⟨_, w, hr, Same.refl _ _, .inr ⟨keyOf key, ⟨sz, []⟩, w.heap.size, 0, rfl, by simp [keyOf], Nat.le_refl _, fun S' hS => ?_, .inl ⟨rfl, .inr ⟨rfl, hev⟩⟩⟩⟩
    exact ⟨hp, Nat.le_refl _, fun i hi => by simp at hi, fun hp => absurd hp (Nat.lt_irrefl _)⟩
  unfold cNewnil at hc
  split at hc
  · rename_i y he
    simp only [Bool.and_eq_true, decide_eq_true_eq] at hc
    exact main y hc.1 hc.2 (by simp [execOp, he])
  · rename_i y he
    simp only [Bool.and_eq_true, decide_eq_true_eq] at hc
    exact main y hc.1 hc.2 (by simp [execOp, he])
  · cases hc

theorem still_ok (h : FR F g w tmps vm ss s) {a : AOp} (hc : cStill P vm ss o.op a = true) (hok : (stillOp (rd s) s.ob key a).ok = true) :
    StillPost (SetOf F g s.ob) w g s.ob key (stillOp (rd s) s.ob key a) ((execOp ({ tmps := tmps, defers := ds } : Act).eval o).run P w) := by
  cases a <;> simp only [cStill] at hc <;> simp only [stillOp] at hok ⊢ <;> try (cases hc; done)
  case mov => exact s_mov h hc
  case newnil => exact s_newnil h hc
  case alloc => exact s_alloc h hc hok
  case box => exact s_box h hc hok
  case build => exact s_build h hc hok
  case mkSl => exact s_mkSl h hc hok
  case load => exact s_load h hc hok
  case nilck => exact s_nilck h hc hok
  case bin => exact s_bin h hc hok
  case eqA => exact s_eqA h hc hok
  case un => exact s_un h hc hok
  case conv => exact s_conv h hc hok
  case b2s => exact s_b2s h hc hok
  case s2b => exact s_s2b h hc hok
  case mkFn => exact s_mkFn h hc hok
  case make =>
    simp only [Bool.and_eq_true, decide_eq_true_eq] at hc
    exact s_make h hc.1 hok hc.2
  case slice => exact s_slice h hc hok
  case fldAddr => exact s_fldAddr h hc hok
  case fld agg off sz x =>
    simp only [also, Bool.and_eq_true] at hok
    obtain ⟨v, w', hr, hw, hcase⟩ := s_fld (key := key) (ds := ds) h hc hok.2 hok.1
    exact ⟨v, w', hr, hw, hcase⟩
  case ixAddr => exact s_ixAddr h hc hok
  case ixStr => exact s_ixStr h hc hok
  case ext => exact s_ext h hc hok
  case len => exact s_len h hc hok
  case minmax => exact s_mm h hc hok

/-! ### Values with the mark of a condition -/

def un1 : AV → AV
  | .opt true a => a
  | .opt false _ => .any
  | .int k n => .int k n
  | .bool b => .bool b
  | .str l => .str l
  | .cv v => .cv v
  | .agg cs => .agg cs
  | .tup cs => .tup cs
  | .sl sz els => .sl sz els
  | .nilsl => .nilsl
  | .ptr sz els i off => .ptr sz els i off
  | .fn f a b => .fn f a b
  | .own k => .own k
  | .ref k i off => .ref k i off
  | .fresh sz els => .fresh sz els
  | .mem sz els => .mem sz els
  | .any => .any

theorem SR.un1 {S : Nat → Prop} {ob : Obs} {v : Value} {a : AV} (h : SR S w g ob v a) : SR S w g ob v (un1 a) := by
  cases a <;> try exact h
  rename_i b a
  cases b
  · exact SR.any
  · simp only [SR, if_true] at h; exact h.toSR

def unS (s : St) : St := { s with vs := s.vs.map un1, st := s.st.map un1 }

theorem FR.unS (h : FR F g w tmps vm ss s) : FR F g w tmps vm ss (unS s) :=
  ⟨h.home, h.inj, h.nF, h.fb, by simpa [Go.Proofs.Ytgbopjgnggdhkaa.unS] using h.vl, by simpa [Go.Proofs.Ytgbopjgnggdhkaa.unS] using h.sl,
    fun i hi => by simp only [Go.Proofs.Ytgbopjgnggdhkaa.unS]; rw [getD_map_any un1 rfl]; exact (h.vs i hi).un1,
    fun i hi => by simp only [Go.Proofs.Ytgbopjgnggdhkaa.unS]; rw [getD_map_any un1 rfl]; exact (h.st i hi).un1, h.fit, h.tab⟩

theorem un1_unopt {a : AV} (h : optOk true a = true) : un1 a = unopt a := by
  cases a <;> try rfl
  rename_i b a
  simp only [optOk, Bool.not_true, Bool.false_or] at h
  subst h; rfl

theorem rd_unS {x : Src} (h : optOk true (rd s x) = true) : rd (unS s) x = rdu s x := by
  cases x
  case c => rfl
  all_goals
    simp only [rd, unS, rdu] at h ⊢
    rw [getD_map_any un1 rfl]
    exact un1_unopt h

theorem stillOp_congr {r r' : Src → AV} {ob : Obs} {d : Nat} {a : AOp} (hg : canGuard a = true) (h : ∀ x, x ∈ opsOf a → r x = r' x) : stillOp r ob d a = stillOp r' ob d a := by
  cases a <;> simp only [canGuard] at hg <;> (try (cases hg; done)) <;> simp only [opsOf] at h <;> simp only [stillOp]
  case slice sz x lo hi =>
    have e1 : lo.map r = lo.map r' := by cases lo <;> simp_all
    have e2 : hi.map r = hi.map r' := by cases hi <;> simp_all
    rw [e1, e2, h x (by simp)]
  case minmax mx xs => rw [List.map_congr_left h]
  case build z ps =>
    have e : (ps.map fun p => (p.1, p.2.1, r p.2.2)) = ps.map fun p => (p.1, p.2.1, r' p.2.2) := List.map_congr_left fun p hp => by rw [h _ (List.mem_map.2 ⟨p, hp, rfl⟩)]
    rw [e]
  case mkSl sz z n ps =>
    have e : (ps.map fun p => (p.1, r p.2)) = ps.map fun p => (p.1, r' p.2) := List.map_congr_left fun p hp => by rw [h _ (List.mem_map.2 ⟨p, hp, rfl⟩)]
    rw [e]
  all_goals simp_all

/-- A value that an operation gives, where the block that it makes is never changed. -/
theorem StillPost.frz (h : FR F g w tmps vm ss s) {m : Mk} {r : Result Next} (hp : StillPost (SetOf F g s.ob) w g s.ob key m r) :
    ∃ v w', r = .ok (.value v) w' ∧ Same (fun _ => False) w w' ∧ SR (SetOf F g s.ob) w' g s.ob v (frzM m).v := by
  obtain ⟨v, w', hr, hw, hcase⟩ := hp
  refine ⟨v, w', hr, hw, ?_⟩
  rcases hcase with ⟨h0, hs⟩ | ⟨k, h', b, cap, e, _, hb, hH, hv⟩
  · simp only [frzM, h0, frzH]; exact hs
  · simp only [frzM, e, frzH]
    have hh := hH (SetOf F g s.ob) fun c hc => .inl hc
    obtain ⟨rr, hcell⟩ := hh.cell
    have hn : 0 < cap → ¬ SetOf F g s.ob b := fun _ c => by have := h.setLt c; omega
    obtain ⟨q1, q2, q3⟩ := hh.sl hcell (fun _ c => c) hn
    rcases hv with ⟨e1, e2⟩ | ⟨e1, e2, e3⟩
    · rw [e1]; simp only [frzV]
      rcases e2 with e2 | ⟨e2, e4⟩
      · rw [e2]; exact q1.toSR
      · rw [e4]; exact (q2 e2).toSR
    · rw [e1, e3]; simp only [frzV]
      have := q3 0 0 e2
      rw [Nat.zero_mul, Nat.zero_add] at this
      exact this.toSR

theorem SR.lone {S : Nat → Prop} {ob : Obs} {v : Value} {a : AV} (h : SR S w g ob v a) (hl : a.lone = true) : SR S w g ob v (.opt true a) := by
  simp only [SR, if_true]
  cases a
  case fn f fi ca =>
    have hat : (AV.fn f fi ca).atoms = true := by simpa [AV.atoms, AV.cells, AV.atom, AV.lone] using hl
    exact h.atoms hat
  all_goals first | exact h | (simp [AV.lone] at hl)

/-- Behind a guarded operation that was run: it gave one value and made no block. -/
theorem FX.guardPut (h : FX F Iow w0 g0 o0 g w tmps vm ss s) (hnd : vm.Nodup) {dst : Option Nat} {D : Dst} (hd : chkDst vm ss dst D = some ss') (hfit : ∀ d, dst = some d → d < tmps.size) {m : Mk} {v : Value}
    (hw : Same (fun _ => False) w w') (hv : m.ok = true → m.hs = [] → SR (SetOf F g s.ob) w' g s.ob v m.v) (hok : (putG s true D m).ok = true) :
    FX F Iow w0 g0 o0 g w' (putT tmps dst v) vm ss' (putG s true D m) := by
  have hm : m.ok = true ∧ m.hs = [] ∧ m.v.lone = true := by
    unfold putG at hok
    cases D <;> simpa [putD] using (by simpa [putD] using hok : _ ∧ _).2
  have h1 := (h.toFR.grow hw).put hnd hd hfit (!true || (m.ok && (m.hs.isEmpty && m.v.lone))) (v := v) (a := .opt true m.v) (fun _ => (hv hm.1 hm.2.1).lone hm.2.2)
  have hob : (putG s true D m).ob = s.ob := by cases D <;> rfl
  exact FX.mk' (w := w) h1 h.same (hw.mono fun _ _ c => c.elim) (fun k hk => h.hio k (by rw [hob] at hk; exact hk)) h.fio (by rw [hob]; exact h.par)

theorem FX.guardSkip (h : FX F Iow w0 g0 o0 g w tmps vm ss s) (hnd : vm.Nodup) {dst : Option Nat} {D : Dst} (hd : chkDst vm ss dst D = some ss') (hfit : ∀ d, dst = some d → d < tmps.size) {m : Mk} :
    FX F Iow w0 g0 o0 g w (putT tmps dst undef) vm ss' (putG s false D m) := by
  have h1 := h.toFR.put hnd hd hfit (!false || (m.ok && (m.hs.isEmpty && m.v.lone))) (v := undef) (a := .opt false m.v) (fun _ => by simp [SR])
  have hob : (putG s false D m).ob = s.ob := by cases D <;> rfl
  exact FX.mk' (w := w) h1 h.same (Same.refl _ _) (fun k hk => h.hio k (by rw [hob] at hk; exact hk)) h.fio (by rw [hob]; exact h.par)

/-! ### One of two values -/

def cPick (vm ss : List Nat) (c a b : Src) : Op → Bool
  | .pick x y z => chkSrc vm ss x c && (chkSrc vm ss y a && chkSrc vm ss z b)
  | _ => false

theorem mixA_cases (c : Bool) (x y : AV) : mixA c x y = .any ∨ mixA c x y = (bif c then x else y) := by
  unfold mixA
  split
  · right; cases c <;> rfl
  · rename_i k p j q
    by_cases e : k = j
    · subst e
      right
      simp only [beq_self_eq_true, cond_true]
      cases c <;> rfl
    · have : (k == j) = false := by simpa using e
      simp only [this, cond_false]
      exact .inl trivial
  · right; cases c <;> rfl
  · exact .inr rfl

theorem mixA_SR {S : Nat → Prop} {ob : Obs} {v u : Value} {x y : AV} (c : Bool) (hx : c = true → SR S w g ob v x) (hy : c = false → SR S w g ob u y) : SR S w g ob (if c = true then v else u) (mixA c x y) := by
  rcases mixA_cases c x y with e | e
  · rw [e]; exact SR.any
  · rw [e]
    cases c
    · exact hy rfl
    · exact hx rfl

theorem s_pick (h : FR F g w tmps vm ss s) {c a b : Src} (hc : cPick vm ss c a b o.op = true) {ac : AV} (hcv : SR (SetOf F g s.ob) w g s.ob (({ tmps := tmps, defers := ds } : Act).eval (match o.op with | .pick x _ _ => x | _ => .const undef)) ac) (hok : (pickM true (rd s a) (rd s b) ac).ok = true) :
    StillPost (SetOf F g s.ob) w g s.ob key (pickM true (rd s a) (rd s b) ac) ((execOp ({ tmps := tmps, defers := ds } : Act).eval o).run P w) := by
  unfold cPick at hc
  split at hc
  · rename_i x y z he
    simp only [Bool.and_eq_true] at hc
    obtain ⟨h1, h2, h3⟩ := hc
    rw [he] at hcv
    have hva := h.src (ds := ds) h2
    have hvb := h.src (ds := ds) h3
    cases ac <;> simp only [pickM, bad] at hok <;> try (cases hok; done)
    rename_i cb
    have hce := sr_bool hcv
    simp only [pickM, when, Bool.true_and, Bool.and_eq_true] at hok ⊢
    have un : ∀ {v : Value} {q : AV}, SR (SetOf F g s.ob) w g s.ob v q → optOk true q = true → SR (SetOf F g s.ob) w g s.ob v (unopt q) := fun hs ho => by
      rw [← un1_unopt ho]; exact hs.un1
    refine .val (v := if cb = true then ({ tmps := tmps, defers := ds } : Act).eval y else ({ tmps := tmps, defers := ds } : Act).eval z) (by simp only [] at hce; simp [execOp, he, hce, asBool]) rfl (mixA_SR cb (fun e => ?_) (fun e => ?_))
    · subst e; exact un hva hok.1
    · subst e; exact un hvb hok.2
  · cases hc

end
end Go.Proofs.Ytgbopjgnggdhkaa
