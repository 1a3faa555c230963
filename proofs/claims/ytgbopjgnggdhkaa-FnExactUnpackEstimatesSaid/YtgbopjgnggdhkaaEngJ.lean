/- A frame behind an operation; stores and appends. No condition. -/
import Derived.Test.YtgbopjgnggdhkaaEngI
namespace Go.Proofs.Ytgbopjgnggdhkaa
open Go Go.RowKit
set_option linter.unusedSimpArgs false
set_option linter.unusedVariables false

/-- What has become of the blocks that were handed over: as long as before only where they lie where they lay. -/
def Par (g0 : Gh) (o0 : Obs) (g : Gh) (ob : Obs) : Prop := ∀ k h, k % 32 = 31 → obGet k ob = some h →
  ∃ h0, obGet k o0 = some h0 ∧ h.sz = h0.sz ∧ h0.els.length ≤ h.els.length ∧ (h.els.length = h0.els.length → g.β k = g0.β k ∧ g.cap k = g0.cap k)

theorem Par.sub {g0 g : Gh} {o0 ob ob' : Obs} (h : Par g0 o0 g ob) (hs : ∀ k h, obGet k ob' = some h → obGet k ob = some h) : Par g0 o0 g ob' :=
  fun k hm hk hg => h k hm hk (hs k hm hg)

theorem Par.new {g0 g : Gh} {o0 ob : Obs} (h : Par g0 o0 g ob) {k b cap : Nat} {hm : Hm} (hk : k % 32 ≠ 31) : Par g0 o0 ⟨fun j => if j = k then b else g.β j, fun j => if j = k then cap else g.cap j⟩ (obSet k hm ob) := by
  intro j h' hj hg
  have hne : j ≠ k := fun e => hk (e ▸ hj)
  rw [obGet_obSet, if_neg (Ne.symm hne)] at hg
  simpa [hne] using h j h' hj hg

theorem Par.set {g0 g : Gh} {o0 ob : Obs} (h : Par g0 o0 g ob) {k b cap : Nat} {hm h2 : Hm} (hk : obGet k ob = some hm) (hz : h2.sz = hm.sz) (hl : hm.els.length ≤ h2.els.length) (hb : h2.els.length = hm.els.length → b = g.β k ∧ cap = g.cap k) :
    Par g0 o0 ⟨fun j => if j = k then b else g.β j, fun j => if j = k then cap else g.cap j⟩ (obSet k h2 ob) := by
  intro j h' hj hg
  rw [obGet_obSet] at hg
  by_cases hne : k = j
  · subst hne
    rw [if_pos rfl] at hg; cases hg
    obtain ⟨h0, e0, e1, e2, e3⟩ := h k hm hj hk
    refine ⟨h0, e0, by rw [hz, e1], Nat.le_trans e2 hl, fun e => ?_⟩
    obtain ⟨a1, a2⟩ := hb (by omega)
    obtain ⟨b1, b2⟩ := e3 (by omega)
    simp [a1, a2, b1, b2]
  · rw [if_neg hne] at hg
    simpa [Ne.symm hne] using h j h' hj hg

theorem Par.setSame {g0 g : Gh} {o0 ob : Obs} (h : Par g0 o0 g ob) {k : Nat} {hm h2 : Hm} (hk : obGet k ob = some hm) (hz : h2.sz = hm.sz) (hl : h2.els.length = hm.els.length) : Par g0 o0 g (obSet k h2 ob) := by
  intro j h' hj hg
  rw [obGet_obSet] at hg
  by_cases hne : k = j
  · subst hne
    rw [if_pos rfl] at hg; cases hg
    obtain ⟨h0, e0, e1, e2, e3⟩ := h k hm hj hk
    exact ⟨h0, e0, by rw [hz, e1], by omega, fun e => e3 (by omega)⟩
  · rw [if_neg hne] at hg
    exact h j h' hj hg

/-- The frame, and what has become of the world in which the call began: of what was there, only the blocks of Iow may have changed. -/
structure FX (F Iow : Nat → Prop) (w0 : World) (g0 : Gh) (o0 : Obs) (g : Gh) (w : World) (tmps : Array Value) (vm ss : List Nat) (s : St) : Prop extends FR F g w tmps vm ss s where
  same : Same Iow w0 w
  hio : ∀ k, liv g s.ob k → w0.heap.size ≤ g.β k ∨ Iow (g.β k)
  fio : ∀ b, F b → ¬ Iow b
  par : Par g0 o0 g s.ob

section
variable {F Iow : Nat → Prop} {w0 : World} {g0 : Gh} {o0 : Obs} {g : Gh} {w w' : World} {tmps : Array Value} {ds : List Deferred} {vm ss ss' : List Nat} {s : St} {P : Program} {o : Oper} {key : Nat}

theorem FR.setLt (h : FR F g w tmps vm ss s) {b : Nat} (hb : SetOf F g s.ob b) : b < w.heap.size := by
  rcases hb with hb | ⟨k, ⟨⟨hm, hk⟩, hp⟩, rfl⟩
  · exact h.fb b hb
  · exact (h.home k hm hk).lt hp

theorem Same.into (h0 : Same Iow w0 w) (hw : Same (fun b => w0.heap.size ≤ b ∨ Iow b) w w') : Same Iow w0 w' := by
  refine ⟨hw.os.trans h0.os, hw.tape.trans h0.tape, hw.output.trans h0.output, Nat.le_trans h0.size hw.size, fun b hb hn => ?_⟩
  have hc : ¬ (w0.heap.size ≤ b ∨ Iow b) := by
    rintro (c | c)
    · omega
    · exact hn c
  exact (hw.block b (Nat.lt_of_lt_of_le hb h0.size) hc).trans (h0.block b hb hn)

theorem FX.mk' (h : FR F g w' tmps vm ss s) {w : World} (h0 : Same Iow w0 w) (hw : Same (fun b => w0.heap.size ≤ b ∨ Iow b) w w') (hio : ∀ k, liv g s.ob k → w0.heap.size ≤ g.β k ∨ Iow (g.β k)) (fio : ∀ b, F b → ¬ Iow b) (par : Par g0 o0 g s.ob) : FX F Iow w0 g0 o0 g w' tmps vm ss s :=
  ⟨h, h0.into hw, hio, fio, par⟩

theorem clear_get {k d : Nat} {hm : Hm} (hg : obGet k (clear s d).ob = some hm) : obGet k s.ob = some hm := by
  unfold Go.Proofs.Ytgbopjgnggdhkaa.clear at hg
  rw [cond_eq_if] at hg
  split at hg
  · simp only [obGet_clrOb] at hg
    split at hg
    · cases hg
    · exact hg
  · exact hg

theorem clear_in {k d : Nat} (hk : inOb (clear s d).ob k) : inOb s.ob k := by
  obtain ⟨hm, hg⟩ := hk
  unfold Go.Proofs.Ytgbopjgnggdhkaa.clear at hg
  rw [cond_eq_if] at hg
  split at hg
  · simp only [obGet_clrOb] at hg
    split at hg
    · cases hg
    · exact ⟨hm, hg⟩
  · exact ⟨hm, hg⟩

/-- The world got more, and one new block under a new key. -/
theorem FR.addNew (h : FR F g w tmps vm ss s) (hw : Same (fun _ => False) w w') {k b cap : Nat} {hm : Hm} (hk : ¬ inOb s.ob k) (hb : w.heap.size ≤ b)
    (hnew : ∀ S' : Nat → Prop, (∀ c, S' c → SetOf F g s.ob c ∨ c = b) → Home S' w' b cap hm.sz hm.els) :
    FR F ⟨fun j => if j = k then b else g.β j, fun j => if j = k then cap else g.cap j⟩ w' tmps vm ss { s with ob := obSet k hm s.ob } := by
  have hsame : Same (SetOf F g s.ob) w w' := hw.mono fun _ _ c => c.elim
  have hS : ∀ c, c < w.heap.size → (SetOf F g s.ob c ∨ c = b) → SetOf F g s.ob c := fun c hc hcc => by
    rcases hcc with e | e
    · exact e
    · omega
  refine (h.grow hw).add hk (fun _ c hc e => ?_) hnew (fun k' h' hg => ?_) (fun i hi => ?_) (fun i hi => ?_) (h.tab.mono hsame hS)
  · have := h.setLt hc; omega
  · exact (h.home k' h' hg).mono hsame (fun hp => hw.block _ ((h.home k' h' hg).lt hp) (fun c => c)) hS
  · exact (h.vs i hi).mono hsame hS fun k _ hm hk => ⟨hm, hk, rfl, rfl, rfl, rfl⟩
  · exact (h.st i hi).mono hsame hS fun k _ hm hk => ⟨hm, hk, rfl, rfl, rfl, rfl⟩

/-- Behind an operation that writes nothing that was there. -/
theorem FX.still (h : FX F Iow w0 g0 o0 g w tmps vm ss s) (hnd : vm.Nodup) {dst : Option Nat} {D : Dst} (hd : chkDst vm ss dst D = some ss') (hfit : ∀ d, dst = some d → d < tmps.size) {m : Mk} {r : Result Next}
    (hp : StillPost (SetOf F g s.ob) w g s.ob key m r) : ∃ v w' g', r = .ok (.value v) w' ∧ FX F Iow w0 g0 o0 g' w' (putT tmps dst v) vm ss' (putM s key D m) := by
  obtain ⟨v, w', hr, hw, hcase⟩ := hp
  have hw2 : Same (fun b => w0.heap.size ≤ b ∨ Iow b) w w' := hw.mono fun _ _ c => c.elim
  rcases hcase with ⟨hhs, hv⟩ | ⟨k, hm, b, cap, hhs, hk, hb, hnew, hval⟩
  · refine ⟨v, w', g, hr, ?_⟩
    unfold putM
    rw [hhs]
    simp only [putH]
    have h1 := (h.toFR.grow hw).put hnd hd hfit m.ok (v := v) (a := m.v) (fun _ => hv)
    have this : (putD s m.ok m.v D).ob = s.ob := by cases D <;> rfl
    refine FX.mk' (w := w) h1 h.same hw2 (fun k hk => ?_) h.fio (by rw [this]; exact h.par)
    rw [this] at hk
    exact h.hio k hk
  · have h1 := h.toFR.clear key
    have hsub : ∀ c, SetOf F g (clear s key).ob c → SetOf F g s.ob c := fun c hc => SetOf_sub (fun k hk => clear_in hk) hc
    have h2 := h1.addNew hw (k := k) (b := b) (cap := cap) (hm := hm) (clear_none h.toFR hk.1) hb (fun S' hS => hnew S' fun c hc => by
      rcases hS c hc with e | e
      · exact .inl (hsub c e)
      · exact .inr e)
    refine ⟨v, w', ⟨fun j => if j = k then b else g.β j, fun j => if j = k then cap else g.cap j⟩, hr, ?_⟩
    unfold putM
    rw [hhs]
    simp only [putH, withOb, addAll]
    have h3 := h2.put hnd hd hfit m.ok (v := v) (a := m.v) (fun _ => by
      rcases hval with ⟨e1, e3⟩ | ⟨e1, e2, rfl⟩
      · rw [e1]; exact ⟨hm, by simp [obGet_obSet], by simpa using e3⟩
      · rw [e1]; exact ⟨hm, by simp [obGet_obSet], e2, by simp⟩)
    have hcl : ∀ j h', obGet j (clear s key).ob = some h' → obGet j s.ob = some h' := fun j h' hg => clear_get hg
    refine FX.mk' (w := w) h3 h.same hw2 (fun j hj => ?_) h.fio (by
      have : (putD { clear s key with ob := obSet k hm (clear s key).ob } m.ok m.v D).ob = obSet k hm (clear s key).ob := by cases D <;> rfl
      rw [this]; exact (h.par.sub hcl).new hk.2)
    have : (putD { clear s key with ob := obSet k hm (clear s key).ob } m.ok m.v D).ob = obSet k hm (clear s key).ob := by cases D <;> rfl
    rw [this] at hj
    by_cases hjk : j = k
    · subst hjk
      simp only [if_true]
      exact .inl (Nat.le_trans h.same.size hb)
    · simp only [hjk, if_false]
      obtain ⟨⟨hm', hg⟩, hp⟩ := hj
      rw [obGet_obSet, if_neg (Ne.symm hjk)] at hg
      simp only [hjk, if_false] at hp
      exact h.hio j ⟨clear_in ⟨hm', hg⟩, hp⟩

/-! ### What is frozen -/

theorem Home.sl {S S' : Nat → Prop} {b cap sz : Nat} {els : List AV} (hh : Home S w b cap sz els) {r : Nat → Nat → Value}
    (hcell : ∀ i j, i < els.length → j < sz → w.cell? ⟨b, i * sz + j, none⟩ = some (r i j) ∧ VR S w (r i j) ((els.getD i .any).cells.getD j .any)) (hS : ∀ c, S' c → S c) (hn : 0 < cap → ¬ S' b) :
    VR S' w (.slice (some ⟨b, 0, none⟩) els.length cap) (.sl sz els) ∧ (cap = 0 → VR S' w (.slice none 0 0) (.sl sz els)) ∧
    ∀ i off, i < els.length → VR S' w (.pointer (some ⟨b, i * sz + off, none⟩)) (.ptr sz els i off) := by
  have hns : 0 < els.length → ¬ S' b := fun hp => hn (by have := hh.len; omega)
  have hr : ∀ i j, i < els.length → j < sz → VR S' w (r i j) ((els.getD i .any).cells.getD j .any) := fun i j hi hj =>
    (hcell i j hi hj).2.mono (Same.refl _ _) fun b _ hb => hS b hb
  refine ⟨.sl b 0 r rfl hh.len hh.pos (fun hp => ⟨rfl, hns hp⟩) hh.cells (fun i j hi hj => by rw [Nat.zero_add]; exact (hcell i j hi hj).1) hr, fun h0 => ?_, fun i off hi => ?_⟩
  · have he : els = [] := by have := hh.len; rw [h0] at this; exact List.length_eq_zero_iff.1 (by omega)
    subst he
    exact .sl 0 0 (fun _ _ => undef) rfl (Nat.le_refl _) hh.pos (fun hp => by simp at hp) (fun i hi => by simp at hi) (fun i j hi _ => by simp at hi) (fun i j hi _ => by simp at hi)
  · have := VR.ptr (S := S') (w := w) (i0 := i) (o0 := off) b 0 r hh.pos hi (hns (by omega)) hh.cells (fun i j hi hj => by rw [Nat.zero_add]; exact (hcell i j hi hj).1) hr
    rwa [Nat.zero_add] at this

theorem FR.sl_of (h : FR F g w tmps vm ss s) {k : Nat} {hm : Hm} (hk : obGet k s.ob = some hm) {S' : Nat → Prop} (hS : ∀ b, S' b → SetOf F g s.ob b ∧ (0 < g.cap k → b ≠ g.β k)) :
    VR S' w (.slice (some ⟨g.β k, 0, none⟩) hm.els.length (g.cap k)) (.sl hm.sz hm.els) ∧
    ∀ i off, i < hm.els.length → VR S' w (.pointer (some ⟨g.β k, i * hm.sz + off, none⟩)) (.ptr hm.sz hm.els i off) := by
  have hh := h.home k hm hk
  obtain ⟨r, hcell⟩ := hh.cell
  have hns : 0 < hm.els.length → ¬ S' (g.β k) := fun hp c => (hS _ c).2 (by have := hh.len; omega) rfl
  have hr : ∀ i j, i < hm.els.length → j < hm.sz → VR S' w (r i j) ((hm.els.getD i .any).cells.getD j .any) := fun i j hi hj =>
    (hcell i j hi hj).2.mono (Same.refl _ _) fun b _ hb => (hS b hb).1
  refine ⟨.sl (g.β k) 0 r rfl hh.len hh.pos (fun hp => ⟨rfl, hns hp⟩) hh.cells (fun i j hi hj => by rw [Nat.zero_add]; exact (hcell i j hi hj).1) hr, fun i off hi => ?_⟩
  have := VR.ptr (S := S') (w := w) (i0 := i) (o0 := off) (g.β k) 0 r hh.pos hi (hns (by omega)) hh.cells (fun i j hi hj => by rw [Nat.zero_add]; exact (hcell i j hi hj).1) hr
  rwa [Nat.zero_add] at this

theorem fz1_ok (h : FR F g w tmps vm ss s) {k : Nat} {hm : Hm} (hk : obGet k s.ob = some hm) {v : Value} {a : AV} (ha : SR1 (SetOf F g s.ob) w g s.ob v a) : SR1 (SetOf F g (obDel k s.ob)) w g (obDel k s.ob) v (a.fz1 k hm) := by
  have hS : ∀ b, SetOf F g (obDel k s.ob) b → SetOf F g s.ob b ∧ (0 < g.cap k → b ≠ g.β k) := by
    intro b hb
    rcases hb with hb | ⟨j, ⟨⟨hm', hg⟩, hp⟩, e⟩
    · exact ⟨.inl hb, fun hp e => h.nF k ⟨⟨hm, hk⟩, hp⟩ (e ▸ hb)⟩
    · rw [obGet_obDel] at hg
      split at hg
      · cases hg
      · rename_i hne
        exact ⟨.inr ⟨j, ⟨⟨hm', hg⟩, hp⟩, e⟩, fun hp2 e2 => hne (h.inj k j ⟨⟨hm, hk⟩, hp2⟩ ⟨⟨hm', hg⟩, hp⟩ (by rw [e, e2]))⟩
  have keep : ∀ j hm', j ≠ k → obGet j s.ob = some hm' → obGet j (obDel k s.ob) = some hm' := fun j hm' hne hg => by rw [obGet_obDel, if_neg (Ne.symm hne)]; exact hg
  cases a
  case own j =>
    obtain ⟨hm', ho, e⟩ := ha
    simp only [AV.fz1, cond_eq_if, beq_iff_eq]
    split
    · rename_i hj; subst hj
      rw [hk] at ho; cases ho
      rcases e with e | ⟨hz, e⟩
      · rw [e]; exact (h.sl_of hk hS).1
      · rw [e, h.nil_els hk hz]
        exact .sl 0 0 (fun _ _ => undef) rfl (Nat.le_refl _) (h.home j hm hk).pos (fun hp => by simp at hp) (fun i hi => by simp at hi) (fun i j hi _ => by simp at hi) (fun i j hi _ => by simp at hi)
    · rename_i hj; exact ⟨hm', keep j hm' hj ho, e⟩
  case ref j i off =>
    obtain ⟨hm', ho, hi, e⟩ := ha
    simp only [AV.fz1, cond_eq_if, beq_iff_eq]
    split
    · rename_i hj; subst hj
      rw [hk] at ho; cases ho
      rw [e]; exact (h.sl_of hk hS).2 i off hi
    · rename_i hj; exact ⟨hm', keep j hm' hj ho, hi, e⟩
  all_goals
    simp only [SR1, AV.fz1] at ha ⊢
    exact ha.mono (Same.refl _ _) fun b _ hb => (hS b hb).1

theorem fz_ok (h : FR F g w tmps vm ss s) {k : Nat} {hm : Hm} (hk : obGet k s.ob = some hm) {v : Value} {a : AV} (ha : SR (SetOf F g s.ob) w g s.ob v a) : SR (SetOf F g (obDel k s.ob)) w g (obDel k s.ob) v (a.fz k hm) := by
  have hl : ∀ (l : List AV) j, (l.map (AV.fz1 k hm)).getD j .any = (l.getD j .any).fz1 k hm := fun l j => getD_map_any _ rfl l j
  cases a
  case fn f a1 a2 =>
    obtain ⟨v1, v2, e, n1, n2, h1, h2⟩ := ha
    exact ⟨v1, v2, e, by simpa using n1, by simpa using n2, fun j hj => by rw [hl]; exact fz1_ok h hk (h1 j (by simpa using hj)), fun j hj => by rw [hl]; exact fz1_ok h hk (h2 j (by simpa using hj))⟩
  case tup as =>
    obtain ⟨vs, e, n, h1⟩ := ha
    exact ⟨vs, e, by simpa using n, fun j hj => by rw [hl]; exact fz1_ok h hk (h1 j (by simpa using hj))⟩
  case opt b a =>
    simp only [SR, AV.fz] at ha ⊢
    split at ha
    · rename_i hb; rw [if_pos hb]; exact fz1_ok h hk ha
    · rename_i hb; rw [if_neg hb]; exact ha
  case own j => exact (fz1_ok h hk (a := .own j) ha).toSR
  case ref j i off => exact (fz1_ok h hk (a := .ref j i off) ha).toSR
  all_goals
    simp only [SR] at ha
    exact (fz1_ok h hk ha).toSR

theorem FX.freezeH (h : FX F Iow w0 g0 o0 g w tmps vm ss s) (k : Nat) : FX F Iow w0 g0 o0 g w tmps vm ss (freezeH s k (obGet k s.ob)) := by
  cases hk : obGet k s.ob with
  | none => exact h
  | some hm =>
    have hin : ∀ j, inOb (obDel k s.ob) j → inOb s.ob j := fun j ⟨hm', hg⟩ => by
      rw [obGet_obDel] at hg; split at hg
      · cases hg
      · exact ⟨hm', hg⟩
    have hfr : FR F g w tmps vm ss (Go.Proofs.Ytgbopjgnggdhkaa.freezeH s k (some hm)) := by
      refine ⟨fun j hm' hg => ?_, fun j j' a b => h.inj j j' ⟨hin j a.1, a.2⟩ ⟨hin j' b.1, b.2⟩, fun j a => h.nF j ⟨hin j a.1, a.2⟩, h.fb, by simpa [Go.Proofs.Ytgbopjgnggdhkaa.freezeH] using h.vl, by simpa [Go.Proofs.Ytgbopjgnggdhkaa.freezeH] using h.sl, fun i hi => ?_, fun i hi => ?_, h.fit, h.tab.mono (Same.refl _ _) fun b _ hb => SetOf_sub hin hb⟩
      · simp only [Go.Proofs.Ytgbopjgnggdhkaa.freezeH] at hg ⊢
        rw [obGet_obDel] at hg; split at hg
        · cases hg
        · exact (h.home j hm' hg).mono (Same.refl _ _) (fun _ => rfl) fun b _ hb => SetOf_sub hin hb
      · simp only [Go.Proofs.Ytgbopjgnggdhkaa.freezeH]
        rw [getD_map_any _ rfl]
        exact fz_ok h.toFR hk (h.vs i hi)
      · simp only [Go.Proofs.Ytgbopjgnggdhkaa.freezeH]
        rw [getD_map_any _ rfl]
        exact fz_ok h.toFR hk (h.st i hi)
    exact ⟨hfr, h.same, fun j hj => h.hio j ⟨hin j hj.1, hj.2⟩, h.fio, h.par.sub fun j hm' hg => by
      simp only [Go.Proofs.Ytgbopjgnggdhkaa.freezeH] at hg
      rw [obGet_obDel] at hg; split at hg
      · cases hg
      · exact hg⟩

theorem FX.freezeAll (ks : List Nat) : ∀ {s : St}, FX F Iow w0 g0 o0 g w tmps vm ss s → FX F Iow w0 g0 o0 g w tmps vm ss (freezeAll s ks) := by
  induction ks with
  | nil => intro s h; exact h
  | cons k r ih => intro s h; exact ih (h.freezeH k)

end
end Go.Proofs.Ytgbopjgnggdhkaa
