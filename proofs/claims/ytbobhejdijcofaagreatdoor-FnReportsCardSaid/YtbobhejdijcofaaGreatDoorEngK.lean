/- Stores and appends. No condition. -/
import Derived.Test.YtbobhejdijcofaaGreatDoorEngI
namespace Go.Proofs.YtbobhejdijcofaaGreatDoor
open Go Go.RowKit
set_option linter.unusedSimpArgs false
set_option linter.unusedVariables false

/-- What has become of the blocks that were handed over: as long as before only where they lie where they lay. -/
def Par (g0 : Gh) (o0 : Obs) (g : Gh) (ob : Obs) : Prop := ∀ k h, k % 32 = 31 → obGet k ob = some h →
  ∃ h0, obGet k o0 = some h0 ∧ h.sz = h0.sz ∧ h0.els.length ≤ h.els.length ∧ (h.els.length = h0.els.length → g.β k = g0.β k ∧ g.cap k = g0.cap k)

theorem Par.sub {g0 g : Gh} {o0 ob ob' : Obs} (h : Par g0 o0 g ob) (hs : ∀ k h, obGet k ob' = some h → obGet k ob = some h) : Par g0 o0 g ob' :=
  fun k hm hk hg => h k hm hk (hs k hm hg)

theorem Par.new {g0 g : Gh} {o0 ob : Obs} (h : Par g0 o0 g ob) {k b cap : Nat} {hm : Hm} (hk : k % 32 ≠ 31) : Par g0 o0 ⟨fun j => if j = k then b else g.β j, fun j => if j = k then cap else g.cap j⟩ (obSet k hm ob) := by
  intro j h' hj hg
  have hne : j ≠ k := fun e => hk (e ▸ hj)
  rw [obGet_obSet, if_neg (Ne.symm hne)] at hg
  simpa [hne] using h j h' hj hg

theorem Par.set {g0 g : Gh} {o0 ob : Obs} (h : Par g0 o0 g ob) {k b cap : Nat} {hm h2 : Hm} (hk : obGet k ob = some hm) (hz : h2.sz = hm.sz) (hl : hm.els.length ≤ h2.els.length) (hb : h2.els.length = hm.els.length → b = g.β k ∧ cap = g.cap k) :
    Par g0 o0 ⟨fun j => if j = k then b else g.β j, fun j => if j = k then cap else g.cap j⟩ (obSet k h2 ob) := by
  intro j h' hj hg
  rw [obGet_obSet] at hg
  by_cases hne : k = j
  · subst hne
    rw [if_pos rfl] at hg; cases hg
    obtain ⟨h0, e0, e1, e2, e3⟩ := h k hm hj hk
    refine ⟨h0, e0, by rw [hz, e1], Nat.le_trans e2 hl, fun e => ?_⟩
    obtain ⟨a1, a2⟩ := hb (by omega)
    obtain ⟨b1, b2⟩ := e3 (by omega)
    simp [a1, a2, b1, b2]
  · rw [if_neg hne] at hg
    simpa [Ne.symm hne] using h j h' hj hg

theorem Par.setSame {g0 g : Gh} {o0 ob : Obs} (h : Par g0 o0 g ob) {k : Nat} {hm h2 : Hm} (hk : obGet k ob = some hm) (hz : h2.sz = hm.sz) (hl : h2.els.length = hm.els.length) : Par g0 o0 g (obSet k h2 ob) := by
  intro j h' hj hg
  rw [obGet_obSet] at hg
  by_cases hne : k = j
  · subst hne
    rw [if_pos rfl] at hg; cases hg
    obtain ⟨h0, e0, e1, e2, e3⟩ := h k hm hj hk
    exact ⟨h0, e0, by rw [hz, e1], by omega, fun e => e3 (by omega)⟩
  · rw [if_neg hne] at hg
    exact h j h' hj hg

/-- The frame, and what has become of the world in which the call began: of what was there, only the blocks of Iow may have changed. -/
structure FX (F Iow : Nat → Prop) (w0 : World) (g0 : Gh) (o0 : Obs) (g : Gh) (w : World) (tmps : Array Value) (vm ss : List Nat) (s : St) : Prop extends FR F g w tmps vm ss s where
  same : Same Iow w0 w
  hio : ∀ k, liv g s.ob k → w0.heap.size ≤ g.β k ∨ Iow (g.β k)
  fio : ∀ b, F b → ¬ Iow b
  par : Par g0 o0 g s.ob

section
variable {F Iow : Nat → Prop} {w0 : World} {g0 : Gh} {o0 : Obs} {g : Gh} {w w' : World} {tmps : Array Value} {ds : List Deferred} {vm ss ss' : List Nat} {s : St} {P : Program} {o : Oper} {key : Nat}

theorem FR.setLt (h : FR F g w tmps vm ss s) {b : Nat} (hb : SetOf F g s.ob b) : b < w.heap.size := by
  rcases hb with hb | ⟨k, ⟨⟨hm, hk⟩, hp⟩, rfl⟩
  · exact h.fb b hb
  · exact (h.home k hm hk).lt hp

theorem Same.into (h0 : Same Iow w0 w) (hw : Same (fun b => w0.heap.size ≤ b ∨ Iow b) w w') : Same Iow w0 w' := by
  refine ⟨hw.os.trans h0.os, hw.tape.trans h0.tape, hw.output.trans h0.output, Nat.le_trans h0.size hw.size, fun b hb hn => ?_⟩
  have hc : ¬ (w0.heap.size ≤ b ∨ Iow b) := by
    rintro (c | c)
    · omega
    · exact hn c
  exact (hw.block b (Nat.lt_of_lt_of_le hb h0.size) hc).trans (h0.block b hb hn)

theorem FX.mk' (h : FR F g w' tmps vm ss s) {w : World} (h0 : Same Iow w0 w) (hw : Same (fun b => w0.heap.size ≤ b ∨ Iow b) w w') (hio : ∀ k, liv g s.ob k → w0.heap.size ≤ g.β k ∨ Iow (g.β k)) (fio : ∀ b, F b → ¬ Iow b) (par : Par g0 o0 g s.ob) : FX F Iow w0 g0 o0 g w' tmps vm ss s :=
  ⟨h, h0.into hw, hio, fio, par⟩

theorem clear_get {k d : Nat} {hm : Hm} (hg : obGet k (clear s d).ob = some hm) : obGet k s.ob = some hm := by
  unfold Go.Proofs.YtbobhejdijcofaaGreatDoor.clear at hg
  rw [cond_eq_if] at hg
  split at hg
  · simp only [obGet_clrOb] at hg
    split at hg
    · cases hg
    · exact hg
  · exact hg

theorem clear_in {k d : Nat} (hk : inOb (clear s d).ob k) : inOb s.ob k := by
  obtain ⟨hm, hg⟩ := hk
  unfold Go.Proofs.YtbobhejdijcofaaGreatDoor.clear at hg
  rw [cond_eq_if] at hg
  split at hg
  · simp only [obGet_clrOb] at hg
    split at hg
    · cases hg
    · exact ⟨hm, hg⟩
  · exact ⟨hm, hg⟩

/-- The world got more, and one new block under a new key. -/
theorem FR.addNew (h : FR F g w tmps vm ss s) (hw : Same (fun _ => False) w w') {k b cap : Nat} {hm : Hm} (hk : ¬ inOb s.ob k) (hb : w.heap.size ≤ b)
    (hnew : ∀ S' : Nat → Prop, (∀ c, S' c → SetOf F g s.ob c ∨ c = b) → Home S' w' b cap hm.sz hm.els) :
    FR F ⟨fun j => if j = k then b else g.β j, fun j => if j = k then cap else g.cap j⟩ w' tmps vm ss { s with ob := obSet k hm s.ob } := by
  have hsame : Same (SetOf F g s.ob) w w' := hw.mono fun _ _ c => c.elim
  have hS : ∀ c, c < w.heap.size → (SetOf F g s.ob c ∨ c = b) → SetOf F g s.ob c := fun c hc hcc => by
    rcases hcc with e | e
    · exact e
    · omega
  refine (h.grow hw).add hk (fun _ c hc e => ?_) hnew (fun k' h' hg => ?_) (fun i hi => ?_) (fun i hi => ?_) (h.tab.mono hsame hS)
  · have := h.setLt hc; omega
  · exact (h.home k' h' hg).mono hsame (fun hp => hw.block _ ((h.home k' h' hg).lt hp) (fun c => c)) hS
  · exact (h.vs i hi).mono hsame hS fun k _ hm hk => ⟨hm, hk, rfl, rfl, rfl, rfl⟩
  · exact (h.st i hi).mono hsame hS fun k _ hm hk => ⟨hm, hk, rfl, rfl, rfl, rfl⟩

/-- Behind an operation that writes nothing that was there. -/
theorem FX.still (h : FX F Iow w0 g0 o0 g w tmps vm ss s) (hnd : NdOk vm) {dst : Option Nat} {D : Dst} (hd : chkDst vm ss dst D = some ss') (hfit : ∀ d, dst = some d → d < tmps.size) {m : Mk} {r : Result Next}
    (hp : StillPost (SetOf F g s.ob) w g s.ob key m r) : ∃ v w' g', r = .ok (.value v) w' ∧ FX F Iow w0 g0 o0 g' w' (putT tmps dst v) vm ss' (putM s key D m) := by
  obtain ⟨v, w', hr, hw, hcase⟩ := hp
  have hw2 : Same (fun b => w0.heap.size ≤ b ∨ Iow b) w w' := hw.mono fun _ _ c => c.elim
  rcases hcase with ⟨hhs, hv⟩ | ⟨k, hm, b, cap, hhs, hk, hb, hnew, hval⟩
  · refine ⟨v, w', g, hr, ?_⟩
    unfold putM
    rw [hhs]
    simp only [putH]
    have h1 := (h.toFR.grow hw).put hnd hd hfit m.ok (v := v) (a := m.v) (fun _ => hv)
    have this : (putD s m.ok m.v D).ob = s.ob := by cases D <;> rfl
    refine FX.mk' (w := w) h1 h.same hw2 (fun k hk => ?_) h.fio (by rw [this]; exact h.par)
    rw [this] at hk
    exact h.hio k hk
  · have h1 := h.toFR.clear key
    have hsub : ∀ c, SetOf F g (clear s key).ob c → SetOf F g s.ob c := fun c hc => SetOf_sub (fun k hk => clear_in hk) hc
    have h2 := h1.addNew hw (k := k) (b := b) (cap := cap) (hm := hm) (clear_none h.toFR hk.1) hb (fun S' hS => hnew S' fun c hc => by
      rcases hS c hc with e | e
      · exact .inl (hsub c e)
      · exact .inr e)
    refine ⟨v, w', ⟨fun j => if j = k then b else g.β j, fun j => if j = k then cap else g.cap j⟩, hr, ?_⟩
    unfold putM
    rw [hhs]
    simp only [putH, withOb, addAll]
    have h3 := h2.put hnd hd hfit m.ok (v := v) (a := m.v) (fun _ => by
      rcases hval with ⟨e1, e3⟩ | ⟨e1, e2, rfl⟩
      · rw [e1]; exact ⟨hm, by simp [obGet_obSet], by simpa using e3⟩
      · rw [e1]; exact ⟨hm, by simp [obGet_obSet], e2, by simp⟩)
    have hcl : ∀ j h', obGet j (clear s key).ob = some h' → obGet j s.ob = some h' := fun j h' hg => clear_get hg
    refine FX.mk' (w := w) h3 h.same hw2 (fun j hj => ?_) h.fio (by
      have : (putD { clear s key with ob := obSet k hm (clear s key).ob } m.ok m.v D).ob = obSet k hm (clear s key).ob := by cases D <;> rfl
      rw [this]; exact (h.par.sub hcl).new hk.2)
    have : (putD { clear s key with ob := obSet k hm (clear s key).ob } m.ok m.v D).ob = obSet k hm (clear s key).ob := by cases D <;> rfl
    rw [this] at hj
    by_cases hjk : j = k
    · subst hjk
      simp only [if_true]
      exact .inl (Nat.le_trans h.same.size hb)
    · simp only [hjk, if_false]
      obtain ⟨⟨hm', hg⟩, hp⟩ := hj
      rw [obGet_obSet, if_neg (Ne.symm hjk)] at hg
      simp only [hjk, if_false] at hp
      exact h.hio j ⟨clear_in ⟨hm', hg⟩, hp⟩

/-! ### What is frozen -/

theorem Home.sl {S S' : Nat → Prop} {b cap sz : Nat} {els : List AV} (hh : Home S w b cap sz els) {r : Nat → Nat → Value}
    (hcell : ∀ i j, i < els.length → j < sz → w.cell? ⟨b, i * sz + j, none⟩ = some (r i j) ∧ VR S w (r i j) ((els.getD i .any).cells.getD j .any)) (hS : ∀ c, S' c → S c) (hn : 0 < cap → ¬ S' b) :
    VR S' w (.slice (some ⟨b, 0, none⟩) els.length cap) (.sl sz els) ∧ (cap = 0 → VR S' w (.slice none 0 0) (.sl sz els)) ∧
    ∀ i off, i < els.length → VR S' w (.pointer (some ⟨b, i * sz + off, none⟩)) (.ptr sz els i off) := by
  have hns : 0 < els.length → ¬ S' b := fun hp => hn (by have := hh.len; omega)
  have hr : ∀ i j, i < els.length → j < sz → VR S' w (r i j) ((els.getD i .any).cells.getD j .any) := fun i j hi hj =>
    (hcell i j hi hj).2.mono (Same.refl _ _) fun b _ hb => hS b hb
  refine ⟨.sl b 0 r rfl hh.len hh.pos (fun hp => ⟨rfl, hns hp⟩) hh.cells (fun i j hi hj => by rw [Nat.zero_add]; exact (hcell i j hi hj).1) hr, fun h0 => ?_, fun i off hi => ?_⟩
  · have he : els = [] := by have := hh.len; rw [h0] at this; exact List.length_eq_zero_iff.1 (by omega)
    subst he
    exact .sl 0 0 (fun _ _ => undef) rfl (Nat.le_refl _) hh.pos (fun hp => by simp at hp) (fun i hi => by simp at hi) (fun i j hi _ => by simp at hi) (fun i j hi _ => by simp at hi)
  · have := VR.ptr (S := S') (w := w) (i0 := i) (o0 := off) b 0 r hh.pos hi (hns (by omega)) hh.cells (fun i j hi hj => by rw [Nat.zero_add]; exact (hcell i j hi hj).1) hr
    rwa [Nat.zero_add] at this

theorem FR.sl_of (h : FR F g w tmps vm ss s) {k : Nat} {hm : Hm} (hk : obGet k s.ob = some hm) {S' : Nat → Prop} (hS : ∀ b, S' b → SetOf F g s.ob b ∧ (0 < g.cap k → b ≠ g.β k)) :
    VR S' w (.slice (some ⟨g.β k, 0, none⟩) hm.els.length (g.cap k)) (.sl hm.sz hm.els) ∧
    ∀ i off, i < hm.els.length → VR S' w (.pointer (some ⟨g.β k, i * hm.sz + off, none⟩)) (.ptr hm.sz hm.els i off) := by
  have hh := h.home k hm hk
  obtain ⟨r, hcell⟩ := hh.cell
  have hns : 0 < hm.els.length → ¬ S' (g.β k) := fun hp c => (hS _ c).2 (by have := hh.len; omega) rfl
  have hr : ∀ i j, i < hm.els.length → j < hm.sz → VR S' w (r i j) ((hm.els.getD i .any).cells.getD j .any) := fun i j hi hj =>
    (hcell i j hi hj).2.mono (Same.refl _ _) fun b _ hb => (hS b hb).1
  refine ⟨.sl (g.β k) 0 r rfl hh.len hh.pos (fun hp => ⟨rfl, hns hp⟩) hh.cells (fun i j hi hj => by rw [Nat.zero_add]; exact (hcell i j hi hj).1) hr, fun i off hi => ?_⟩
  have := VR.ptr (S := S') (w := w) (i0 := i) (o0 := off) (g.β k) 0 r hh.pos hi (hns (by omega)) hh.cells (fun i j hi hj => by rw [Nat.zero_add]; exact (hcell i j hi hj).1) hr
  rwa [Nat.zero_add] at this

theorem fz1_ok (h : FR F g w tmps vm ss s) {k : Nat} {hm : Hm} (hk : obGet k s.ob = some hm) {v : Value} {a : AV} (ha : SR1 (SetOf F g s.ob) w g s.ob v a) : SR1 (SetOf F g (obDel k s.ob)) w g (obDel k s.ob) v (a.fz1 k hm) := by
  have hS : ∀ b, SetOf F g (obDel k s.ob) b → SetOf F g s.ob b ∧ (0 < g.cap k → b ≠ g.β k) := by
    intro b hb
    rcases hb with hb | ⟨j, ⟨⟨hm', hg⟩, hp⟩, e⟩
    · exact ⟨.inl hb, fun hp e => h.nF k ⟨⟨hm, hk⟩, hp⟩ (e ▸ hb)⟩
    · rw [obGet_obDel] at hg
      split at hg
      · cases hg
      · rename_i hne
        exact ⟨.inr ⟨j, ⟨⟨hm', hg⟩, hp⟩, e⟩, fun hp2 e2 => hne (h.inj k j ⟨⟨hm, hk⟩, hp2⟩ ⟨⟨hm', hg⟩, hp⟩ (by rw [e, e2]))⟩
  have keep : ∀ j hm', j ≠ k → obGet j s.ob = some hm' → obGet j (obDel k s.ob) = some hm' := fun j hm' hne hg => by rw [obGet_obDel, if_neg (Ne.symm hne)]; exact hg
  cases a
  case own j =>
    obtain ⟨hm', ho, e⟩ := ha
    simp only [AV.fz1, cond_eq_if, beq_iff_eq]
    split
    · rename_i hj; subst hj
      rw [hk] at ho; cases ho
      rcases e with e | ⟨hz, e⟩
      · rw [e]; exact (h.sl_of hk hS).1
      · rw [e, h.nil_els hk hz]
        exact .sl 0 0 (fun _ _ => undef) rfl (Nat.le_refl _) (h.home j hm hk).pos (fun hp => by simp at hp) (fun i hi => by simp at hi) (fun i j hi _ => by simp at hi) (fun i j hi _ => by simp at hi)
    · rename_i hj; exact ⟨hm', keep j hm' hj ho, e⟩
  case ref j i off =>
    obtain ⟨hm', ho, hi, e⟩ := ha
    simp only [AV.fz1, cond_eq_if, beq_iff_eq]
    split
    · rename_i hj; subst hj
      rw [hk] at ho; cases ho
      rw [e]; exact (h.sl_of hk hS).2 i off hi
    · rename_i hj; exact ⟨hm', keep j hm' hj ho, hi, e⟩
  all_goals
    simp only [SR1, AV.fz1] at ha ⊢
    exact ha.mono (Same.refl _ _) fun b _ hb => (hS b hb).1

theorem fz_ok (h : FR F g w tmps vm ss s) {k : Nat} {hm : Hm} (hk : obGet k s.ob = some hm) {v : Value} {a : AV} (ha : SR (SetOf F g s.ob) w g s.ob v a) : SR (SetOf F g (obDel k s.ob)) w g (obDel k s.ob) v (a.fz k hm) := by
  have hl : ∀ (l : List AV) j, (l.map (AV.fz1 k hm)).getD j .any = (l.getD j .any).fz1 k hm := fun l j => getD_map_any _ rfl l j
  cases a
  case fn f a1 a2 =>
    obtain ⟨v1, v2, e, n1, n2, h1, h2⟩ := ha
    exact ⟨v1, v2, e, by simpa using n1, by simpa using n2, fun j hj => by rw [hl]; exact fz1_ok h hk (h1 j (by simpa using hj)), fun j hj => by rw [hl]; exact fz1_ok h hk (h2 j (by simpa using hj))⟩
  case tup as =>
    obtain ⟨vs, e, n, h1⟩ := ha
    exact ⟨vs, e, by simpa using n, fun j hj => by rw [hl]; exact fz1_ok h hk (h1 j (by simpa using hj))⟩
  case opt b a =>
    simp only [SR, AV.fz] at ha ⊢
    split at ha
    · rename_i hb; rw [if_pos hb]; exact fz1_ok h hk ha
    · rename_i hb; rw [if_neg hb]; exact ha
  case own j => exact (fz1_ok h hk (a := .own j) ha).toSR
  case ref j i off => exact (fz1_ok h hk (a := .ref j i off) ha).toSR
  all_goals
    simp only [SR] at ha
    exact (fz1_ok h hk ha).toSR

theorem FX.freezeH (h : FX F Iow w0 g0 o0 g w tmps vm ss s) (k : Nat) : FX F Iow w0 g0 o0 g w tmps vm ss (freezeH s k (obGet k s.ob)) := by
  cases hk : obGet k s.ob with
  | none => exact h
  | some hm =>
    have hin : ∀ j, inOb (obDel k s.ob) j → inOb s.ob j := fun j ⟨hm', hg⟩ => by
      rw [obGet_obDel] at hg; split at hg
      · cases hg
      · exact ⟨hm', hg⟩
    have hfr : FR F g w tmps vm ss (Go.Proofs.YtbobhejdijcofaaGreatDoor.freezeH s k (some hm)) := by
      refine ⟨fun j hm' hg => ?_, fun j j' a b => h.inj j j' ⟨hin j a.1, a.2⟩ ⟨hin j' b.1, b.2⟩, fun j a => h.nF j ⟨hin j a.1, a.2⟩, h.fb, by simpa [Go.Proofs.YtbobhejdijcofaaGreatDoor.freezeH] using h.vl, by simpa [Go.Proofs.YtbobhejdijcofaaGreatDoor.freezeH] using h.sl, fun i hi => ?_, fun i hi => ?_, h.fit, h.tab.mono (Same.refl _ _) fun b _ hb => SetOf_sub hin hb⟩
      · simp only [Go.Proofs.YtbobhejdijcofaaGreatDoor.freezeH] at hg ⊢
        rw [obGet_obDel] at hg; split at hg
        · cases hg
        · exact (h.home j hm' hg).mono (Same.refl _ _) (fun _ => rfl) fun b _ hb => SetOf_sub hin hb
      · simp only [Go.Proofs.YtbobhejdijcofaaGreatDoor.freezeH]
        rw [getD_map_any _ rfl]
        exact fz_ok h.toFR hk (h.vs i hi)
      · simp only [Go.Proofs.YtbobhejdijcofaaGreatDoor.freezeH]
        rw [getD_map_any _ rfl]
        exact fz_ok h.toFR hk (h.st i hi)
    exact ⟨hfr, h.same, fun j hj => h.hio j ⟨hin j hj.1, hj.2⟩, h.fio, h.par.sub fun j hm' hg => by
      simp only [Go.Proofs.YtbobhejdijcofaaGreatDoor.freezeH] at hg
      rw [obGet_obDel] at hg; split at hg
      · cases hg
      · exact hg⟩

theorem FX.freezeAll (ks : List Nat) : ∀ {s : St}, FX F Iow w0 g0 o0 g w tmps vm ss s → FX F Iow w0 g0 o0 g w tmps vm ss (freezeAll s ks) := by
  induction ks with
  | nil => intro s h; exact h
  | cons k r ih => intro s h; exact ih (h.freezeH k)

end

open Go Go.RowKit
set_option linter.unusedSimpArgs false
set_option linter.unusedVariables false

section
variable {F Iow : Nat → Prop} {w0 : World} {g0 : Gh} {o0 : Obs} {g : Gh} {w w' : World} {tmps : Array Value} {ds : List Deferred} {vm ss ss' : List Nat} {s : St} {P : Program} {o : Oper} {key : Nat}

theorem setCell_row {b off : Nat} {arr : Array Value} {T : TypeId} {fz : Nat × Nat} {v : Value} (hb : w.heap[b]? = some (.cells arr T fz)) :
    (w.setCell ⟨b, off, none⟩ v).heap[b]? = some (.cells (arr.setIfInBounds off v) T fz) ∧ Same (fun c => c = b) w (w.setCell ⟨b, off, none⟩ v) := by
  refine ⟨by simp [World.setCell, Array.getElem?_modify, hb], ⟨rfl, rfl, rfl, by simp, fun c hc hn => ?_⟩⟩
  exact Below.heap_setCell w _ _ c hn

theorem run_store_row (b : Nat) (T : TypeId) (fz : Nat × Nat) : ∀ (vs : List Value) (o i : Nat) (arr : Array Value) (w : World), w.heap[b]? = some (.cells arr T fz) → (fz = (0, 0) ∨ arr.size ≤ fz.1) → o + i + vs.length ≤ arr.size → (∀ v, v ∈ vs → v.oneCell' = true) →
    ∃ w' arr', (storeCells ⟨b, o, none⟩ vs i).run P w = .ok () w' ∧ Same (fun c => c = b) w w' ∧ w'.heap[b]? = some (.cells arr' T fz) ∧ arr'.size = arr.size ∧
      ∀ x, arr'.getD x undef = if o + i ≤ x ∧ x < o + i + vs.length then vs.getD (x - (o + i)) undef else arr.getD x undef
  | [], o, i, arr, w, hb, _, _, _ => ⟨w, arr, rfl, Same.refl _ _, hb, rfl, fun x => by simp only [List.length_nil]; rw [if_neg (by omega)]⟩
  | v :: vs, o, i, arr, w, hb, hfz, hle, h1 => by
    have hlt : o + i < arr.size := by simp at hle; omega
    have hcell : w.cell? ⟨b, o + i, none⟩ = some arr[o + i] := by simp [World.cell?, hb, hlt]
    have hfro : w.frozen? ⟨b, o + i, none⟩ = false := by
      simp only [World.frozen?, hb]
      rcases hfz with e | e
      · subst e; simp
      · simp; omega
    have hst : (store ((⟨b, o, none⟩ : Addr).add i) v).run P w = .ok () (w.setCell ⟨b, o + i, none⟩ v) := by
      rw [add_plain, run_store P w _ v _ (h1 v (by simp)), hcell]
      simp [hfro]
    obtain ⟨hb', hsame⟩ := setCell_row (off := o + i) (v := v) hb
    obtain ⟨w', arr', hr, hs, hbb, hsz, hget⟩ := run_store_row b T fz vs o (i + 1) (arr.setIfInBounds (o + i) v) (w.setCell ⟨b, o + i, none⟩ v) hb' (by simpa using hfz) (by simp at hle ⊢; omega) (fun x hx => h1 x (by simp [hx]))
    refine ⟨w', arr', by simp only [storeCells, Sem.run_bind, hst, Result.andThen_ok, hr], hsame.trans hs, hbb, by simpa using hsz, fun x => ?_⟩
    rw [hget x]
    simp only [List.length_cons]
    by_cases c1 : o + (i + 1) ≤ x ∧ x < o + (i + 1) + vs.length
    · rw [if_pos c1, if_pos (by omega), show x - (o + i) = (x - (o + (i + 1))) + 1 by omega, List.getD_cons_succ]
    · rw [if_neg c1]
      by_cases c2 : o + i = x
      · subst c2
        rw [if_pos (by omega), Nat.sub_self, List.getD_cons_zero, getD_setEq hlt]
      · rw [if_neg (by omega), getD_setNe c2]

/-! ### A store -/

def cStore (P : Program) (vm ss : List Nat) (sz : Nat) (p x : Src) : Op → Bool
  | .store t a b => chkSrc vm ss a p && (chkSrc vm ss b x && szT P t == some sz)
  | _ => false

theorem atom_notAgg {a : AV} (h : a.atom = true) : a.isAgg = false := by cases a <;> first | rfl | (simp [AV.atom] at h)

theorem elem_getD (l : List AV) (j : Nat) (h : j < l.length) : l[j] = l.getD j .any := by
  rw [List.getD_eq_getElem?_getD, List.getElem?_eq_getElem h]; rfl

theorem like_cells {el : AV} {xs : List AV} {off : Nat} (hat : ∀ j, j < xs.length → (xs.getD j .any).atom = true) (hle : off + xs.length ≤ el.cells.length) : (el.like (putCells el.cells off xs)).cells = putCells el.cells off xs := by
  by_cases hg : el.isAgg = true
  · cases el <;> simp [AV.isAgg] at hg
    rfl
  · have hc := cells_one (by simpa using hg : el.isAgg = false)
    rw [hc] at hle ⊢
    simp only [List.length_singleton] at hle
    have hlike : ∀ y, el.like [y] = y := fun y => by cases el <;> first | rfl | (simp [AV.isAgg] at hg)
    match xs, hat, hle with
    | [], _, _ => simp only [putCells]; rw [hlike, hc]
    | [y], hat, hle =>
      have h0 : off = 0 := by simp at hle; omega
      subst h0
      simp only [putCells, List.set_cons_zero]
      rw [hlike]
      exact cells_one (atom_notAgg (by simpa using hat 0 (by simp)))
    | y :: z :: r, _, hle => simp at hle; omega

theorem KeyOk.set {k : Nat} {hm h2 : Hm} (hk : obGet k s.ob = some hm) (hl : h2.els.length = hm.els.length) (hz : h2.sz = hm.sz) (j : Nat) : KeyOk g g s.ob (obSet k h2 s.ob) j := by
  intro h' hg
  by_cases e : k = j
  · subst e
    rw [hk] at hg; cases hg
    exact ⟨h2, by rw [obGet_obSet, if_pos rfl], hl, hz, rfl, rfl⟩
  · exact ⟨h', by rw [obGet_obSet, if_neg e]; exact hg, rfl, rfl, rfl, rfl⟩

theorem inOb_set {k j : Nat} {hm h2 : Hm} {ob : Obs} (hk : obGet k ob = some hm) (hj : inOb (obSet k h2 ob) j) : inOb ob j := by
  obtain ⟨h', hg⟩ := hj
  rw [obGet_obSet] at hg
  split at hg
  · rename_i e; subst e; exact ⟨hm, hk⟩
  · exact ⟨h', hg⟩

/-- A block of the frame's own has got other elements, as many as before. -/
theorem FX.change (h : FX F Iow w0 g0 o0 g w tmps vm ss s) {k : Nat} {hm h2 : Hm} (hk : obGet k s.ob = some hm) (hp : 0 < g.cap k) (hl : h2.els.length = hm.els.length) (hz : h2.sz = hm.sz) (hw : Same (fun c => c = g.β k) w w')
    (hnew : Home (SetOf F g s.ob) w' (g.β k) (g.cap k) h2.sz h2.els) (ok : Bool) : FX F Iow w0 g0 o0 g w' tmps vm ss { s with ob := obSet k h2 s.ob, ok := ok } := by
  have hset : ∀ c, SetOf F g (obSet k h2 s.ob) c → SetOf F g s.ob c := fun c hc => SetOf_sub (fun j hj => inOb_set hk hj) hc
  have hsame : Same (SetOf F g s.ob) w w' := hw.mono fun c _ e => .inr ⟨k, ⟨⟨hm, hk⟩, hp⟩, e.symm⟩
  have hfr := h.toFR.slots (w' := w') (g' := g) (ob' := obSet k h2 s.ob) id rfl hsame (fun b _ c => hset b c) (fun a v _ => .inr ⟨rfl, fun j _ => KeyOk.set hk hl hz j⟩) (fun j h' hg => by
    rw [obGet_obSet] at hg
    split at hg
    · rename_i e; subst e; cases hg
      exact hnew.mono (Same.refl _ _) (fun _ => rfl) fun b _ c => hset b c
    · rename_i e
      exact (h.home j h' hg).mono hsame (fun hpj => hw.block _ ((h.home j h' hg).lt hpj) fun e2 => e (h.inj k j ⟨⟨hm, hk⟩, hp⟩ ⟨⟨h', hg⟩, hpj⟩ e2.symm)) fun b _ c => hset b c) (fun j j' a b => h.inj j j' ⟨inOb_set hk a.1, a.2⟩ ⟨inOb_set hk b.1, b.2⟩) (fun j a => h.nF j ⟨inOb_set hk a.1, a.2⟩) ok
  simp only [List.map_id] at hfr
  refine FX.mk' (w := w) hfr h.same (hw.mono fun c _ e => ?_) (fun j hj => h.hio j ⟨inOb_set hk hj.1, hj.2⟩) h.fio (h.par.setSame hk hz hl)
  rw [e]; exact h.hio k ⟨⟨hm, hk⟩, hp⟩

theorem FX.store (h : FX F Iow w0 g0 o0 g w tmps vm ss s) {sz : Nat} {p x : Src} (hc : cStore P vm ss sz p x o.op = true) (hok : (storeA s sz (rd s x) (rd s p)).ok = true) :
    ∃ w', (execOp ({ tmps := tmps, defers := ds } : Act).eval o).run P w = .ok .skip w' ∧ FX F Iow w0 g0 o0 g w' tmps vm ss (storeA s sz (rd s x) (rd s p)) := by
  unfold cStore at hc
  split at hc
  · rename_i t a b he
    simp only [Bool.and_eq_true, beq_iff_eq] at hc
    obtain ⟨hs1, hs2, hsz⟩ := hc
    have hvp := h.toFR.src (ds := ds) hs1
    have hvx := h.toFR.src (ds := ds) hs2
    revert hok
    generalize rd s p = ap at hvp
    generalize rd s x = ax at hvx
    intro hok
    cases ap <;> simp only [storeA, fail] at hok <;> try (cases hok; done)
    case ref k i off =>
      obtain ⟨hm, ho, hi, hev⟩ := hvp
      simp only [storeA, ho, storeH] at hok ⊢
      simp only [storeEl, Bool.and_eq_true, beq_iff_eq, decide_eq_true_eq] at hok
      obtain ⟨_, hilt, hxl, hle, hat⟩ := hok
      have hh := h.home k hm ho
      obtain ⟨arr, T, fz, hr, hf, hsize, hvr⟩ := hh.row (by have := hh.len; omega)
      have hvv := hvx.atoms hat
      have hcx := hvv.cells hat
      have hcl := hh.cells i hi
      have hbound : i * hm.sz + hm.sz ≤ arr.size := by
        have h1 := hh.len
        have : (i + 1) * hm.sz ≤ g.cap k * hm.sz := Nat.mul_le_mul_right _ (by omega)
        rw [Nat.add_mul] at this; omega
      obtain ⟨w', arr', hrun, hsame, hb', hasz, hget⟩ := run_store_row (P := P) (g.β k) T fz (({ tmps := tmps, defers := ds } : Act).eval b).cells.toList (i * hm.sz + off) 0 arr w hr (hf.imp_right And.right) (by simp only [Array.length_toList, hcx.1, hxl]; rw [hcl.1] at hle; omega) (fun u hu => by
        obtain ⟨j, hj, rfl⟩ := List.getElem_of_mem hu
        have hj' : j < ax.cells.length := by rw [← hcx.1]; simpa using hj
        have := (hcx.2 j hj').oneCell (atoms_cells hat hj')
        rw [← getD_toList, List.getD_eq_getElem?_getD, List.getElem?_eq_getElem hj] at this
        exact this)
      refine ⟨w', ?_, ?_⟩
      · have hcs : (({ tmps := tmps, defers := ds } : Act).eval b).cells.size = sz := by rw [hcx.1, hxl]
        simp [execOp, he, Instr.storeAt, Instr.sureAddr, hev, storeVar, run_szT hsz, hcs, hrun]
      · have hlc := like_cells (el := hm.els.getD i .any) (xs := ax.cells) (off := off) (fun j hj => atoms_cells hat hj) (by omega)
        refine h.change (h2 := ⟨hm.sz, hm.els.set i ((hm.els.getD i .any).like (putCells (hm.els.getD i .any).cells off ax.cells))⟩) ho (by have := hh.len; omega) (by simp) rfl hsame ?_ _
        have hmono : Same (SetOf F g s.ob) w w' := hsame.mono fun c _ e => .inr ⟨k, ⟨⟨hm, ho⟩, by have := hh.len; omega⟩, e.symm⟩
        have hset : ∀ i', i' < hm.els.length → (hm.els.set i ((hm.els.getD i .any).like (putCells (hm.els.getD i .any).cells off ax.cells))).getD i' .any = if i = i' then (hm.els.getD i .any).like (putCells (hm.els.getD i .any).cells off ax.cells) else hm.els.getD i' .any := by
          intro i' hi'
          rw [List.getD_eq_getElem?_getD, List.getElem?_set]
          by_cases e : i = i'
          · simp [e, hi']
          · simp [e, List.getD_eq_getElem?_getD]
        have hplen : (putCells (hm.els.getD i .any).cells off ax.cells).length = hm.sz := by rw [putCells_len, hcl.1]
        refine ⟨hh.pos, by simpa using hh.len, fun i' hi' => ?_, fun _ => ⟨arr', T, fz, hb', by rw [hasz]; exact hf, by rw [hasz, hsize], fun i' j hi' hj => ?_⟩⟩
        · have hi2 : i' < hm.els.length := by simpa using hi'
          rw [hset i' hi2]
          split
          · refine ⟨by rw [hlc, hplen], ?_⟩
            simp only [AV.atoms, hlc, List.all_eq_true]
            intro q hq
            obtain ⟨j, hj, rfl⟩ := List.getElem_of_mem hq
            rw [elem_getD _ j hj, putCells_get]
            split
            · exact atoms_cells hat (by omega)
            · exact atoms_cells hcl.2 (by rw [hcl.1]; omega)
          · exact hh.cells i' hi2
        · have hi2 : i' < hm.els.length := by simpa using hi'
          have hj2 : j < hm.sz := hj
          rw [hset i' hi2, hget]
          simp only [Array.length_toList, hcx.1, hxl, Nat.add_zero]
          by_cases e : i = i'
          · subst e
            rw [if_pos rfl, hlc, putCells_get]
            by_cases c1 : off ≤ j ∧ j < off + sz
            · rw [if_pos (by omega), if_pos (by rw [hxl, hcl.1]; omega), getD_toList, show i * hm.sz + j - (i * hm.sz + off) = j - off by omega]
              exact (hcx.2 (j - off) (by omega)).ext hmono
            · rw [if_neg (by omega), if_neg (by rw [hxl]; omega)]
              exact (hvr i j hi hj).ext hmono
          · rw [if_neg e, if_neg]
            · exact (hvr i' j hi2 hj).ext hmono
            · rw [hcl.1] at hle
              rintro ⟨c1, c2⟩
              rcases Nat.lt_or_gt_of_ne e with hlt | hlt
              · have : (i + 1) * hm.sz ≤ i' * hm.sz := Nat.mul_le_mul_right _ (by omega)
                rw [Nat.add_mul] at this; omega
              · have : (i' + 1) * hm.sz ≤ i * hm.sz := Nat.mul_le_mul_right _ (by omega)
                rw [Nat.add_mul] at this; omega
  · cases hc

/-! ### An append -/

def notInt (P : Program) (t : TypeId) : Bool :=
  match P.underlying t with
  | some (.slice _) => true
  | some .string => true
  | _ => false

def cApp (P : Program) (vm ss : List Nat) (sz bytes : Nat) (z : AV) (a x : Src) : Op → Bool
  | .call { callee := .builtin .append, args := args, argTypes := tys } => (match args.toList, tys.toList with
    | [p, q], [t, u] => chkSrc vm ss p a && (chkSrc vm ss q x && (notInt P u && (decide (1 ≤ sz) && (match slT P t with
      | some e => szT P e == some sz && (byT P e == some bytes && (match zeT P e with
        | some zv => zv.cells.size == sz && decide (1 ≤ bytes)
        | none => false))
      | none => false))))
    | _, _ => false)
  | _ => false

/-- What is appended: its cells. -/
structure SrcOk (S : Nat → Prop) (w : World) (P : Program) (sz : Nat) (v : Value) (ys : List AV) (news : Array Value) : Prop where
  n : (Builtin.lenOf v).run P w = .ok ys.length w
  c : (Builtin.firstCells sz ys.length v).run P w = .ok news w
  l : news.size = ys.length * sz
  e : ∀ i, i < ys.length → (ys.getD i .any).cells.length = sz ∧ (ys.getD i .any).atoms = true
  r : ∀ i j, i < ys.length → j < sz → VR S w (news.getD (i * sz + j) undef) ((ys.getD i .any).cells.getD j .any)

theorem range_getD (f : Nat → Value) (n x : Nat) (h : x < n) : ((List.range n).map f).toArray.getD x undef = f x := by
  rw [toArray_getD, List.getD_eq_getElem?_getD, List.getElem?_map, List.getElem?_range h]; rfl

theorem two_dim {x n sz : Nat} (hsz : 1 ≤ sz) (h : x < n * sz) : x / sz < n ∧ x % sz < sz ∧ x = x / sz * sz + x % sz :=
  ⟨Nat.div_lt_of_lt_mul (by rw [Nat.mul_comm]; exact h), Nat.mod_lt _ (by omega), by rw [Nat.mul_comm]; exact (Nat.div_add_mod x sz).symm⟩

theorem appSrc_ok (h : FR F g w tmps vm ss s) {sz : Nat} (hsz : 1 ≤ sz) {v : Value} {a : AV} (hv : SR (SetOf F g s.ob) w g s.ob v a) (hok : (appSrc sz s.ob a).ok = true) (hs2 : (appSrc sz s.ob a).sz = sz) :
    ∃ news, SrcOk (SetOf F g s.ob) w P sz v (appSrc sz s.ob a).els news := by
  cases a <;> simp only [appSrc] at hok <;> try (cases hok; done)
  case str l =>
    have e := sr_str hv
    subst e
    simp only [beq_iff_eq] at hok
    subst hok
    simp only [appSrc]
    have hg : ∀ i, i < l.length → (l.map byteAV).getD i .any = byteAV (l.getD i 0) := fun i hi => by
      rw [List.getD_eq_getElem?_getD, List.getElem?_map, List.getElem?_eq_getElem hi, List.getD_eq_getElem?_getD, List.getElem?_eq_getElem hi]; rfl
    refine ⟨(l.map fun b => Value.int .u8 (b.toNat : Int)).toArray, ⟨by simp [Builtin.lenOf, size_mk], ?_, by simp, fun i hi => ?_, fun i j hi hj => ?_⟩⟩
    · simp only [Builtin.firstCells, List.length_map]
      rw [ByteArray.extract_mk]
      simp
    · rw [hg i (by simpa using hi)]; exact ⟨rfl, rfl⟩
    · have hi' : i < l.length := by simpa using hi
      have hj0 : j = 0 := by omega
      subst hj0
      rw [hg i hi', Nat.mul_one, Nat.add_zero, toArray_getD]
      have : (l.map fun b => Value.int .u8 (b.toNat : Int)).getD i undef = .int .u8 ((l.getD i 0).toNat : Int) := by
        rw [List.getD_eq_getElem?_getD, List.getElem?_map, List.getElem?_eq_getElem hi', List.getD_eq_getElem?_getD, List.getElem?_eq_getElem hi']; rfl
      rw [this]; exact .int
  case nilsl =>
    have e := sr_nil hv
    subst e
    simp only [appSrc]
    exact ⟨#[], ⟨rfl, rfl, by simp, fun i hi => by simp at hi, fun i j hi _ => by simp at hi⟩⟩
  case sl sz2 els =>
    simp only [SR, SR1] at hv
    simp only [beq_iff_eq] at hok
    subst hok
    simp only [appSrc]
    cases hv with
    | @sl ad n cap _ _ b off r hn hcap hsz0 ha hcl hw hr =>
      subst hn
      by_cases hp : 0 < els.length
      · obtain ⟨rfl, hns⟩ := ha hp
        have hl := run_loadCells (P := P) w ⟨b, off, none⟩ (els.length * sz2) (fun x => r (x / sz2) (x % sz2)) (fun x hx => by
          obtain ⟨h1, h2, h3⟩ := two_dim hsz0 hx
          rw [add_plain]
          have := hw (x / sz2) (x % sz2) h1 h2
          rwa [← h3] at this)
        refine ⟨_, ⟨rfl, by simp only [Builtin.firstCells]; exact hl, by simp, hcl, fun i j hi hj => ?_⟩⟩
        have hlt := div_lt hi hj
        rw [range_getD _ _ _ hlt, Nat.mul_comm i, Nat.mul_add_div (by omega), Nat.div_eq_of_lt hj, Nat.add_zero, Nat.mul_add_mod, Nat.mod_eq_of_lt hj]
        exact hr i j hi hj
      · have h0 : els = [] := List.length_eq_zero_iff.1 (by omega)
        subst h0
        refine ⟨#[], ⟨rfl, ?_, by simp, fun i hi => by simp at hi, fun i j hi _ => by simp at hi⟩⟩
        cases ad <;> simp [Builtin.firstCells, loadCells, loadCellsFrom]
  case own k =>
    obtain ⟨hm, ho, e⟩ := hv
    rcases e with e | ⟨hz, e⟩
    rotate_left
    · subst e
      simp only [appSrc, ho, srcHm]
      rw [h.nil_els ho hz]
      exact ⟨#[], ⟨rfl, rfl, by simp, fun i hi => by simp at hi, fun i j hi _ => by simp at hi⟩⟩
    subst e
    simp only [appSrc, ho, srcHm] at hok hs2 ⊢
    subst hs2
    have hh := h.home k hm ho
    obtain ⟨r, hcell⟩ := hh.cell
    have hl := run_loadCells (P := P) w ⟨g.β k, 0, none⟩ (hm.els.length * hm.sz) (fun x => r (x / hm.sz) (x % hm.sz)) (fun x hx => by
      obtain ⟨h1, h2, h3⟩ := two_dim hh.pos hx
      rw [add_plain, Nat.zero_add]
      have := (hcell (x / hm.sz) (x % hm.sz) h1 h2).1
      rwa [← h3] at this)
    refine ⟨_, ⟨rfl, by simp only [Builtin.firstCells]; exact hl, by simp, hh.cells, fun i j hi hj => ?_⟩⟩
    have hlt := div_lt hi hj
    rw [range_getD _ _ _ hlt, Nat.mul_comm i, Nat.mul_add_div (by omega), Nat.div_eq_of_lt hj, Nat.add_zero, Nat.mul_add_mod, Nat.mod_eq_of_lt hj]
    exact (hcell i j hi hj).2

end

end Go.Proofs.YtbobhejdijcofaaGreatDoor
