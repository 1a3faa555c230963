/- Operations that write nothing that was there: what the code gives is what the interpreter says. No condition. -/
import Derived.Test.YtbobhejdijcofaaGreatDoorEngC
namespace Go.Proofs.YtbobhejdijcofaaGreatDoor
open Go Go.RowKit
set_option linter.unusedSimpArgs false
set_option linter.unusedVariables false

theorem cond_eq_if {α : Type} (b : Bool) (x y : α) : (bif b then x else y) = if b = true then x else y := by cases b <;> rfl

theorem obGet_obSet (k k' : Nat) (h : Hm) : ∀ ob : Obs, obGet k' (obSet k h ob) = if k = k' then some h else obGet k' ob
  | [] => by simp [obSet, obGet, cond_eq_if]
  | p :: r => by
    have ih := obGet_obSet k k' h r
    by_cases hp : p.1 = k
    · by_cases hk : k = k'
      · simp [obSet, obGet, cond_eq_if, hp, hk]
      · simp [obSet, obGet, cond_eq_if, hp, hk]
    · by_cases hl : k < p.1
      · by_cases hk : k = k'
        · subst hk; simp [obSet, obGet, cond_eq_if, hp, hl]
        · simp [obSet, obGet, cond_eq_if, hp, hl, hk]
      · by_cases hk : k = k'
        · subst hk; simp [obSet, obGet, cond_eq_if, hp, hl, ih]
        · simp [obSet, obGet, cond_eq_if, hp, hl, ih, hk]

theorem obGet_obDel (k k' : Nat) : ∀ ob : Obs, obGet k' (obDel k ob) = if k = k' then none else obGet k' ob
  | [] => by simp [obDel, obGet]
  | p :: r => by
    have ih := obGet_obDel k k' r
    by_cases hp : p.1 = k
    · by_cases hk : k = k'
      · subst hk; simp [obDel, cond_eq_if, hp] at ih ⊢; exact ih
      · simp [obDel, obGet, cond_eq_if, hp, hk, ih]
    · by_cases hk : k = k'
      · subst hk; simp [obDel, obGet, cond_eq_if, hp, ih]
      · simp [obDel, obGet, cond_eq_if, hp, ih, hk]

theorem obGet_clrOb (d k : Nat) : ∀ ob : Obs, obGet k (clrOb d ob) = if k / 32 = d then none else obGet k ob
  | [] => by simp [clrOb, obGet]
  | p :: r => by
    have ih := obGet_clrOb d k r
    by_cases hp : p.1 / 32 = d
    · by_cases hk : k / 32 = d
      · simp [clrOb, cond_eq_if, hp, hk, ih]
      · have hne : p.1 ≠ k := fun e => hk (e ▸ hp)
        simp [clrOb, obGet, cond_eq_if, hp, hk, ih, hne]
    · by_cases hk : k / 32 = d
      · have hne : p.1 ≠ k := fun e => hp (e ▸ hk)
        simp [clrOb, obGet, cond_eq_if, hp, hk, ih, hne]
      · simp [clrOb, obGet, cond_eq_if, hp, hk, ih]

theorem hasKey_false {d k : Nat} {h : Hm} : ∀ {ob : Obs}, hasKey d ob = false → obGet k ob = some h → k / 32 ≠ d
  | [], _, hg => by simp [obGet] at hg
  | p :: r, hn, hg => by
    simp only [hasKey, Bool.or_eq_false_iff, beq_eq_false_iff_ne] at hn
    by_cases hp : p.1 = k
    · exact hp ▸ hn.1
    · simp only [obGet, cond_eq_if, beq_iff_eq, hp, if_false] at hg
      exact hasKey_false hn.2 hg

/-! ### A slot's value under a change -/

/-- Block k is known as before. -/
def KeyOk (g g' : Gh) (ob ob' : Obs) (k : Nat) : Prop :=
  ∀ h, obGet k ob = some h → ∃ h', obGet k ob' = some h' ∧ h'.els.length = h.els.length ∧ h'.sz = h.sz ∧ g'.β k = g.β k ∧ g'.cap k = g.cap k

theorem SR1.mono {S S' : Nat → Prop} {w w' : World} {g g' : Gh} {ob ob' : Obs} (hsame : Same S w w') (hS : ∀ b, b < w.heap.size → S' b → S b) {v : Value} {a : AV}
    (hk : ∀ k, k ∈ a.key1 → KeyOk g g' ob ob' k) (h : SR1 S w g ob v a) : SR1 S' w' g' ob' v a := by
  cases a
  case own k =>
    obtain ⟨hm, ho, hv⟩ := h
    obtain ⟨hm', ho', e1, _, e3, e4⟩ := hk k (by simp [AV.key1]) hm ho
    exact ⟨hm', ho', by rw [e1, e3, e4]; exact hv⟩
  case ref k i off =>
    obtain ⟨hm, ho, hi, rfl⟩ := h
    obtain ⟨hm', ho', e1, e2, e3, _⟩ := hk k (by simp [AV.key1]) hm ho
    exact ⟨hm', ho', by rw [e1]; exact hi, by rw [e2, e3]⟩
  all_goals exact VR.mono hsame hS h

theorem mem_flatMap_getD {as : List AV} {j : Nat} (hj : j < as.length) {k : Nat} (hk : k ∈ (as.getD j .any).key1) : k ∈ as.flatMap AV.key1 := by
  refine List.mem_flatMap.2 ⟨as.getD j .any, ?_, hk⟩
  rw [List.getD_eq_getElem?_getD, List.getElem?_eq_getElem hj]
  exact List.getElem_mem hj

theorem SR.mono {S S' : Nat → Prop} {w w' : World} {g g' : Gh} {ob ob' : Obs} (hsame : Same S w w') (hS : ∀ b, b < w.heap.size → S' b → S b) {v : Value} {a : AV}
    (hk : ∀ k, k ∈ a.keys → KeyOk g g' ob ob' k) (h : SR S w g ob v a) : SR S' w' g' ob' v a := by
  cases a
  case fn f a1 a2 =>
    obtain ⟨v1, v2, rfl, n1, n2, h1, h2⟩ := h
    refine ⟨v1, v2, rfl, n1, n2, fun j hj => (h1 j hj).mono hsame hS fun k hkk => hk k ?_, fun j hj => (h2 j hj).mono hsame hS fun k hkk => hk k ?_⟩
    · simp only [AV.keys, List.flatMap_append, List.mem_append]; exact .inl (mem_flatMap_getD hj hkk)
    · simp only [AV.keys, List.flatMap_append, List.mem_append]; exact .inr (mem_flatMap_getD hj hkk)
  case tup as =>
    obtain ⟨vs, rfl, n, h1⟩ := h
    exact ⟨vs, rfl, n, fun j hj => (h1 j hj).mono hsame hS fun k hkk => hk k (mem_flatMap_getD hj hkk)⟩
  case opt b a =>
    simp only [SR] at h ⊢
    split at h
    · rename_i hb; rw [if_pos hb]; exact h.mono hsame hS hk
    · rename_i hb; rw [if_neg hb]; exact h
  all_goals
    simp only [SR] at h ⊢
    refine SR1.mono hsame hS (fun k hkk => hk k ?_) h
    first | exact hkk | (simp [AV.key1] at hkk)

theorem SR.any {S : Nat → Prop} {w : World} {g : Gh} {ob : Obs} {v : Value} : SR S w g ob v .any := VR.any

/-- Every block that a slot's value names is there. -/
theorem SR1.has {S : Nat → Prop} {w : World} {g : Gh} {ob : Obs} {v : Value} {a : AV} (h : SR1 S w g ob v a) {k : Nat} (hk : k ∈ a.key1) : inOb ob k := by
  cases a <;> simp [AV.key1] at hk
  case own j => subst hk; obtain ⟨hm, ho, _⟩ := h; exact ⟨hm, ho⟩
  case ref j i off => subst hk; obtain ⟨hm, ho, _⟩ := h; exact ⟨hm, ho⟩

/-! ### The frame -/

structure FR (F : Nat → Prop) (g : Gh) (w : World) (tmps : Array Value) (vm ss : List Nat) (s : St) : Prop where
  home : ∀ k h, obGet k s.ob = some h → Home (SetOf F g s.ob) w (g.β k) (g.cap k) h.sz h.els
  inj : ∀ k k', liv g s.ob k → liv g s.ob k' → g.β k = g.β k' → k = k'
  nF : ∀ k, liv g s.ob k → ¬ F (g.β k)
  fb : ∀ b, F b → b < w.heap.size
  vl : s.vs.length = vm.length
  sl : s.st.length = ss.length
  vs : ∀ i, i < vm.length → SR (SetOf F g s.ob) w g s.ob (tmps.getD (vm.getD i 0) undef) (s.vs.getD i .any)
  st : ∀ i, i < ss.length → SR (SetOf F g s.ob) w g s.ob (tmps.getD (ss.getD i 0) undef) (s.st.getD i .any)
  fit : ∀ t, t ∈ vm ∨ t ∈ ss → t < tmps.size
  tab : GT (SetOf F g s.ob) w

theorem getD_map_any (φ : AV → AV) (hφ : φ .any = .any) (l : List AV) (i : Nat) : (l.map φ).getD i .any = φ (l.getD i .any) := by
  rw [List.getD_eq_getElem?_getD, List.getD_eq_getElem?_getD, List.getElem?_map]
  cases l[i]? <;> simp [hφ]

/-- A slot's value is forgotten, or it names only blocks that are known as before. -/
theorem FR.slots {F : Nat → Prop} {g g' : Gh} {w w' : World} {tmps : Array Value} {vm ss : List Nat} {s : St} (h : FR F g w tmps vm ss s) {ob' : Obs} (φ : AV → AV) (hany : φ .any = .any)
    (hsame : Same (SetOf F g s.ob) w w') (hS : ∀ b, b < w.heap.size → SetOf F g' ob' b → SetOf F g s.ob b)
    (hφ : ∀ a v, SR (SetOf F g s.ob) w g s.ob v a → φ a = .any ∨ (φ a = a ∧ ∀ k, k ∈ a.keys → KeyOk g g' s.ob ob' k))
    (hhome : ∀ k h, obGet k ob' = some h → Home (SetOf F g' ob') w' (g'.β k) (g'.cap k) h.sz h.els)
    (hinj : ∀ k k', liv g' ob' k → liv g' ob' k' → g'.β k = g'.β k' → k = k') (hnF : ∀ k, liv g' ob' k → ¬ F (g'.β k)) (ok : Bool) :
    FR F g' w' tmps vm ss { vs := s.vs.map φ, st := s.st.map φ, ob := ob', ok := ok } where
  home := hhome
  inj := hinj
  nF := hnF
  fb b hb := Nat.lt_of_lt_of_le (h.fb b hb) hsame.size
  vl := by simpa using h.vl
  sl := by simpa using h.sl
  vs i hi := by
    have h0 := h.vs i hi
    simp only [getD_map_any φ hany]
    rcases hφ _ _ h0 with e | ⟨e, hk⟩
    · rw [e]; exact SR.any
    · rw [e]; exact h0.mono hsame hS hk
  st i hi := by
    have h0 := h.st i hi
    simp only [getD_map_any φ hany]
    rcases hφ _ _ h0 with e | ⟨e, hk⟩
    · rw [e]; exact SR.any
    · rw [e]; exact h0.mono hsame hS hk
  fit := h.fit
  tab := h.tab.mono hsame hS

theorem SetOf_sub {F : Nat → Prop} {g : Gh} {ob ob' : Obs} (hs : ∀ k, inOb ob' k → inOb ob k) {b : Nat} (h : SetOf F g ob' b) : SetOf F g ob b := by
  rcases h with h | ⟨k, hk, e⟩
  · exact .inl h
  · exact .inr ⟨k, ⟨hs k hk.1, hk.2⟩, e⟩

theorem FR.setOk {F : Nat → Prop} {g : Gh} {w : World} {tmps : Array Value} {vm ss : List Nat} {s : St} (h : FR F g w tmps vm ss s) (ok : Bool) : FR F g w tmps vm ss { s with ok := ok } :=
  ⟨h.home, h.inj, h.nF, h.fb, h.vl, h.sl, h.vs, h.st, h.fit, h.tab⟩

/-- The world gets more. -/
theorem FR.grow {F : Nat → Prop} {g : Gh} {w w' : World} {tmps : Array Value} {vm ss : List Nat} {s : St} (h : FR F g w tmps vm ss s) (hw : Same (fun _ => False) w w') : FR F g w' tmps vm ss s := by
  have hsame : Same (SetOf F g s.ob) w w' := hw.mono fun _ _ c => c.elim
  exact ⟨fun k hm hk => (h.home k hm hk).mono hsame (fun hp => hw.block _ ((h.home k hm hk).lt hp) (fun c => c)) fun _ _ c => c, h.inj, h.nF, fun b hb => Nat.lt_of_lt_of_le (h.fb b hb) hw.size, h.vl, h.sl,
    fun i hi => (h.vs i hi).mono hsame (fun _ _ c => c) fun k _ hm hk => ⟨hm, hk, rfl, rfl, rfl, rfl⟩,
    fun i hi => (h.st i hi).mono hsame (fun _ _ c => c) fun k _ hm hk => ⟨hm, hk, rfl, rfl, rfl, rfl⟩, h.fit, h.tab.mono hsame (fun _ _ c => c)⟩

/-- Blocks are forgotten, with all that names them. -/
theorem FR.forget {F : Nat → Prop} {g : Gh} {w : World} {tmps : Array Value} {vm ss : List Nat} {s : St} (h : FR F g w tmps vm ss s) {ob' : Obs} (φ : AV → AV) (hany : φ .any = .any)
    (hob : ∀ k hm, obGet k ob' = some hm → obGet k s.ob = some hm)
    (hφ : ∀ a, φ a = .any ∨ (φ a = a ∧ ∀ k, k ∈ a.keys → ∀ hm, obGet k s.ob = some hm → obGet k ob' = some hm)) (ok : Bool) :
    FR F g w tmps vm ss { vs := s.vs.map φ, st := s.st.map φ, ob := ob', ok := ok } := by
  have hin : ∀ k, inOb ob' k → inOb s.ob k := fun k ⟨hm, hk⟩ => ⟨hm, hob k hm hk⟩
  refine h.slots φ hany (Same.refl _ _) (fun b _ c => SetOf_sub hin c) (fun a v _ => ?_) (fun k hm hk => ?_) (fun k k' a b => h.inj k k' ⟨hin k a.1, a.2⟩ ⟨hin k' b.1, b.2⟩) (fun k a => h.nF k ⟨hin k a.1, a.2⟩) ok
  · rcases hφ a with e | ⟨e, hk⟩
    · exact .inl e
    · exact .inr ⟨e, fun k hkk hm hg => ⟨hm, hk k hkk hm hg, rfl, rfl, rfl, rfl⟩⟩
  · exact (h.home k hm (hob k hm hk)).mono (Same.refl _ _) (fun _ => rfl) fun b _ c => SetOf_sub hin c

theorem mem_keys_names {a : AV} {k : Nat} : a.names k = true ↔ k ∈ a.keys := by
  simp [AV.names]

theorem FR.clear {F : Nat → Prop} {g : Gh} {w : World} {tmps : Array Value} {vm ss : List Nat} {s : St} (h : FR F g w tmps vm ss s) (d : Nat) : FR F g w tmps vm ss (clear s d) := by
  unfold Go.Proofs.YtbobhejdijcofaaGreatDoor.clear
  rw [cond_eq_if]
  split
  · refine h.forget (clr d) (by simp [clr, AV.keys]) (fun k hm hk => ?_) (fun a => ?_) s.ok
    · rw [obGet_clrOb] at hk; split at hk
      · cases hk
      · exact hk
    · by_cases hc : a.keys.any (fun k => k / 32 == d) = true
      · exact .inl (by simp only [clr, cond_eq_if]; rw [if_pos hc])
      · refine .inr ⟨by simp only [clr, cond_eq_if]; rw [if_neg hc], fun k hk hm hg => ?_⟩
        rw [obGet_clrOb, if_neg (fun e => hc (List.any_eq_true.2 ⟨k, hk, by simp [e]⟩))]
        exact hg
  · exact h

theorem clear_none {F : Nat → Prop} {g : Gh} {w : World} {tmps : Array Value} {vm ss : List Nat} {s : St} (h : FR F g w tmps vm ss s) {d k : Nat} (hk : k / 32 = d) : ¬ inOb (clear s d).ob k := by
  intro ⟨hm, hg⟩
  unfold Go.Proofs.YtbobhejdijcofaaGreatDoor.clear at hg
  rw [cond_eq_if] at hg
  split at hg
  · simp [obGet_clrOb, hk] at hg
  · rename_i hn
    exact hasKey_false (by simpa using hn) hg hk

theorem FR.killAll {F : Nat → Prop} {g : Gh} {w : World} {tmps : Array Value} {vm ss : List Nat} {s : St} (h : FR F g w tmps vm ss s) (k : Nat) : FR F g w tmps vm ss (killAll s k) := by
  refine h.forget (AV.kill k) (by simp [AV.kill, AV.names, AV.keys]) (fun j hm hk => ?_) (fun a => ?_) s.ok
  · rw [obGet_obDel] at hk; split at hk
    · cases hk
    · exact hk
  · by_cases hc : a.names k = true
    · exact .inl (by simp [AV.kill, hc])
    · refine .inr ⟨by simp [AV.kill, hc], fun j hj hm hg => ?_⟩
      rw [obGet_obDel, if_neg (fun e : k = j => hc (mem_keys_names.2 (by rw [e]; exact hj)))]
      exact hg

/-- A new block is added under a key that is not in use. -/
theorem FR.add {F : Nat → Prop} {g : Gh} {w : World} {tmps : Array Value} {vm ss : List Nat} {s : St} (h : FR F g w tmps vm ss s) {k b cap : Nat} {hm : Hm} (hk : ¬ inOb s.ob k)
    (hb : 0 < cap → ∀ c, SetOf F g s.ob c → c ≠ b)
    (hnew : ∀ S : Nat → Prop, (∀ c, S c → SetOf F g s.ob c ∨ c = b) → Home S w b cap hm.sz hm.els)
    (hold : ∀ k' h', obGet k' s.ob = some h' → Home (fun c => SetOf F g s.ob c ∨ c = b) w (g.β k') (g.cap k') h'.sz h'.els)
    (hvs : ∀ i, i < vm.length → SR (fun c => SetOf F g s.ob c ∨ c = b) w g s.ob (tmps.getD (vm.getD i 0) undef) (s.vs.getD i .any))
    (hst : ∀ i, i < ss.length → SR (fun c => SetOf F g s.ob c ∨ c = b) w g s.ob (tmps.getD (ss.getD i 0) undef) (s.st.getD i .any)) (htab : GT (fun c => SetOf F g s.ob c ∨ c = b) w) :
    FR F ⟨fun j => if j = k then b else g.β j, fun j => if j = k then cap else g.cap j⟩ w tmps vm ss { s with ob := obSet k hm s.ob } := by
  have hβ : ∀ j, inOb s.ob j → j ≠ k := fun j hj e => hk (e ▸ hj)
  have hS : ∀ c, SetOf F ⟨fun j => if j = k then b else g.β j, fun j => if j = k then cap else g.cap j⟩ (obSet k hm s.ob) c → SetOf F g s.ob c ∨ c = b := by
    intro c hc
    rcases hc with hc | ⟨j, ⟨⟨hj, hg⟩, hcp⟩, e⟩
    · exact .inl (.inl hc)
    · rw [obGet_obSet] at hg
      by_cases hjk : k = j
      · subst hjk; exact .inr (by simpa using e.symm)
      · rw [if_neg hjk] at hg
        exact .inl (.inr ⟨j, ⟨⟨hj, hg⟩, by simpa [Ne.symm hjk] using hcp⟩, by simpa [Ne.symm hjk] using e⟩)
  have hkey : ∀ j, KeyOk g ⟨fun j => if j = k then b else g.β j, fun j => if j = k then cap else g.cap j⟩ s.ob (obSet k hm s.ob) j := by
    intro j h' hg
    have hne := hβ j ⟨h', hg⟩
    exact ⟨h', by rw [obGet_obSet, if_neg (Ne.symm hne)]; exact hg, rfl, rfl, by simp [hne], by simp [hne]⟩
  refine ⟨fun j h' hg => ?_, fun j j' hj hj' e => ?_, fun j hj => ?_, h.fb, h.vl, h.sl, fun i hi => ?_, fun i hi => ?_, h.fit, htab.mono (Same.refl _ _) fun c _ hc => hS c hc⟩
  · simp only [obGet_obSet] at hg
    by_cases hjk : k = j
    · subst hjk
      simp only [if_true, Option.some.injEq] at hg ⊢
      subst hg
      exact hnew _ hS
    · rw [if_neg hjk] at hg
      simp only [if_neg (Ne.symm hjk)]
      exact (hold j h' hg).mono (Same.refl _ _) (fun _ => rfl) fun c _ hc => hS c hc
  · obtain ⟨⟨h1, hg1⟩, p1⟩ := hj
    obtain ⟨⟨h2, hg2⟩, p2⟩ := hj'
    simp only [obGet_obSet] at hg1 hg2
    by_cases a1 : j = k
    · by_cases a2 : j' = k
      · rw [a1, a2]
      · rw [if_neg (Ne.symm a2)] at hg2
        simp only [a1, a2, if_true, if_false] at e p1 p2
        exact absurd e.symm (hb p1 _ (.inr ⟨j', ⟨⟨h2, hg2⟩, p2⟩, rfl⟩))
    · rw [if_neg (Ne.symm a1)] at hg1
      by_cases a2 : j' = k
      · simp only [a1, a2, if_true, if_false] at e p1 p2
        exact absurd e (hb p2 _ (.inr ⟨j, ⟨⟨h1, hg1⟩, p1⟩, rfl⟩))
      · rw [if_neg (Ne.symm a2)] at hg2
        simp only [a1, a2, if_false] at e p1 p2
        exact h.inj j j' ⟨⟨h1, hg1⟩, p1⟩ ⟨⟨h2, hg2⟩, p2⟩ e
  · obtain ⟨⟨h1, hg1⟩, p1⟩ := hj
    simp only [obGet_obSet] at hg1
    by_cases a1 : j = k
    · simp only [a1, if_true] at p1 ⊢; exact fun hf => hb p1 _ (.inl hf) rfl
    · rw [if_neg (Ne.symm a1)] at hg1
      simp only [a1, if_false] at p1 ⊢
      exact h.nF j ⟨⟨h1, hg1⟩, p1⟩
  · exact (hvs i hi).mono (Same.refl _ _) (fun c _ hc => hS c hc) fun j _ => hkey j
  · exact (hst i hi).mono (Same.refl _ _) (fun c _ hc => hS c hc) fun j _ => hkey j

/-! ### A value goes to its place -/

/-- The place of the code and that of the model are one; the list of temporaries behind it. -/
def chkDst (vm ss : List Nat) : Option Nat → Dst → Option (List Nat)
  | none, .no => some ss
  | some d, .push => if d ∈ vm ∨ d ∈ ss then none else some (d :: ss)
  | some d, .var n => if vm[n]? = some d ∧ d ∉ ss ∧ d ∉ vm.eraseIdx n then some ss else none
  | some d, .slot n => if ss[n]? = some d ∧ d ∉ vm ∧ ss.Nodup then some ss else none
  | _, _ => none

/-- (Once a condition; chkDst asks for what is needed of it.) -/
def NdOk (_ : List Nat) : Prop := True

theorem eraseIdx_ne {vm : List Nat} {n i d : Nat} (hn : vm[n]? = some d) (hd : d ∉ vm.eraseIdx n) (hi : i < vm.length) (hin : ¬ n = i) : d ≠ vm.getD i 0 := by
  intro e
  refine hd ?_
  rw [List.mem_eraseIdx_iff_getElem]
  exact ⟨i, hi, fun c => hin c.symm, by rw [e, List.getD_eq_getElem?_getD, List.getElem?_eq_getElem hi]; rfl⟩

def putT (tmps : Array Value) (dst : Option Nat) (v : Value) : Array Value :=
  match dst with
  | some d => tmps.setIfInBounds d v
  | none => tmps

theorem Act.put_tmps (a : Act) (dst : Option Nat) (v : Value) : (a.put dst v).tmps = putT a.tmps dst v := by cases dst <;> rfl

theorem getD_setNe {tmps : Array Value} {d t : Nat} {v : Value} (h : d ≠ t) : (tmps.setIfInBounds d v).getD t undef = tmps.getD t undef := by
  simp [Array.getD_eq_getD_getElem?, Array.getElem?_setIfInBounds_ne h]

theorem getD_setEq {tmps : Array Value} {d : Nat} {v : Value} (h : d < tmps.size) : (tmps.setIfInBounds d v).getD d undef = v := by
  simp [Array.getD_eq_getD_getElem?, h]

theorem FR.put {F : Nat → Prop} {g : Gh} {w : World} {tmps : Array Value} {vm ss ss' : List Nat} {s : St} (h : FR F g w tmps vm ss s) (hnd : NdOk vm) {dst : Option Nat} {D : Dst} (hd : chkDst vm ss dst D = some ss')
    (hfit : ∀ d, dst = some d → d < tmps.size) {v : Value} {a : AV} (c : Bool) (hv : dst ≠ none → SR (SetOf F g s.ob) w g s.ob v a) : FR F g w (putT tmps dst v) vm ss' (putD s c a D) := by
  cases dst with
  | none =>
    cases D <;> simp [chkDst] at hd
    subst hd
    exact h.setOk _
  | some d =>
    have hdt := hfit d rfl
    have hv' := hv (by simp)
    cases D with
    | no => simp [chkDst] at hd
    | push =>
      simp only [chkDst] at hd
      split at hd
      · cases hd
      rename_i hn
      simp only [Option.some.injEq] at hd
      subst hd
      have hn1 : d ∉ vm := fun c => hn (.inl c)
      have hn2 : d ∉ ss := fun c => hn (.inr c)
      refine ⟨h.home, h.inj, h.nF, h.fb, h.vl, by simpa [putD] using h.sl, fun i hi => ?_, fun i hi => ?_, fun t ht => ?_, h.tab⟩
      · have hne : d ≠ vm.getD i 0 := fun e => hn1 (by rw [e, List.getD_eq_getElem?_getD, List.getElem?_eq_getElem hi]; exact List.getElem_mem hi)
        simp only [putT, getD_setNe hne]
        exact h.vs i hi
      · cases i with
        | zero => simp only [putT, putD, List.getD_cons_zero, getD_setEq hdt]; exact hv'
        | succ i =>
          have hi' : i < ss.length := by simpa using hi
          have hne : d ≠ ss.getD i 0 := fun e => hn2 (by rw [e, List.getD_eq_getElem?_getD, List.getElem?_eq_getElem hi']; exact List.getElem_mem hi')
          simp only [putT, putD, List.getD_cons_succ, getD_setNe hne]
          exact h.st i hi'
      · simp only [putT, Array.size_setIfInBounds]
        rcases ht with ht | ht
        · exact h.fit t (.inl ht)
        · rcases List.mem_cons.1 ht with e | ht
          · exact e ▸ hdt
          · exact h.fit t (.inr ht)
    | slot n =>
      simp only [chkDst] at hd
      split at hd
      · rename_i hn
        simp only [Option.some.injEq] at hd
        subst hd
        obtain ⟨hn1, hn2, hsn⟩ := hn
        have hnl : n < ss.length := by
          rcases Nat.lt_or_ge n ss.length with h' | h'
          · exact h'
          · rw [List.getElem?_eq_none h'] at hn1; cases hn1
        have hvn : ss.getD n 0 = d := by rw [List.getD_eq_getElem?_getD, hn1]; rfl
        refine ⟨h.home, h.inj, h.nF, h.fb, h.vl, by simpa [putD] using h.sl, fun i hi => ?_, fun i hi => ?_, fun t ht => ?_, h.tab⟩
        · have hne : d ≠ vm.getD i 0 := fun e => hn2 (by rw [e, List.getD_eq_getElem?_getD, List.getElem?_eq_getElem hi]; exact List.getElem_mem hi)
          simp only [putT, getD_setNe hne]
          exact h.vs i hi
        · by_cases hin : n = i
          · subst hin
            have : (s.st.set n a).getD n .any = a := by
              rw [List.getD_eq_getElem?_getD, List.getElem?_set_self (by rw [h.sl]; exact hnl)]; rfl
            simp only [putT, putD, hvn, getD_setEq hdt, this]
            exact hv'
          · have hne : d ≠ ss.getD i 0 := by
              intro e
              have h1 : ss[n]? = ss[i]? := by rw [hn1, e, List.getD_eq_getElem?_getD, List.getElem?_eq_getElem hi]; rfl
              exact hin ((List.getElem?_inj hnl hsn).1 h1)
            have : (s.st.set n a).getD i .any = s.st.getD i .any := by
              rw [List.getD_eq_getElem?_getD, List.getElem?_set_ne hin, List.getD_eq_getElem?_getD]
            simp only [putT, putD, getD_setNe hne, this]
            exact h.st i hi
        · simp only [putT, Array.size_setIfInBounds]; exact h.fit t ht
      · cases hd
    | var n =>
      simp only [chkDst] at hd
      split at hd
      · rename_i hn
        simp only [Option.some.injEq] at hd
        subst hd
        obtain ⟨hn1, hn2, hn3⟩ := hn
        have hnl : n < vm.length := by
          rcases Nat.lt_or_ge n vm.length with h' | h'
          · exact h'
          · rw [List.getElem?_eq_none h'] at hn1; cases hn1
        have hvn : vm.getD n 0 = d := by rw [List.getD_eq_getElem?_getD, hn1]; rfl
        refine ⟨h.home, h.inj, h.nF, h.fb, by simpa [putD] using h.vl, h.sl, fun i hi => ?_, fun i hi => ?_, fun t ht => ?_, h.tab⟩
        · by_cases hin : n = i
          · subst hin
            have : (s.vs.set n a).getD n .any = a := by
              rw [List.getD_eq_getElem?_getD, List.getElem?_set_self (by rw [h.vl]; exact hnl)]; rfl
            simp only [putT, putD, hvn, getD_setEq hdt, this]
            exact hv'
          · have hne : d ≠ vm.getD i 0 := eraseIdx_ne hn1 hn3 hi hin
            have : (s.vs.set n a).getD i .any = s.vs.getD i .any := by
              rw [List.getD_eq_getElem?_getD, List.getElem?_set_ne hin, List.getD_eq_getElem?_getD]
            simp only [putT, putD, getD_setNe hne, this]
            exact h.vs i hi
        · have hne : d ≠ ss.getD i 0 := fun e => hn2 (by rw [e, List.getD_eq_getElem?_getD, List.getElem?_eq_getElem hi]; exact List.getElem_mem hi)
          simp only [putT, getD_setNe hne]
          exact h.st i hi
        · simp only [putT, Array.size_setIfInBounds]; exact h.fit t ht
      · cases hd


open Go Go.RowKit
set_option linter.unusedSimpArgs false
set_option linter.unusedVariables false

def vInt (k : IntKind) (n : Int) : Value → Bool
  | .int j m => j == k && m == n
  | _ => false
def vBool (b : Bool) : Value → Bool
  | .bool a => a == b
  | _ => false
def vStr (l : List UInt8) : Value → Bool
  | .string s => s.data.toList == l
  | _ => false
def vNil : Value → Bool
  | .slice a l c => a.isNone && (l == 0 && c == 0)
  | _ => false
/-- The constants that are kept as they are. -/
def vPlain : Value → Nat
  | .pointer none => 1
  | .nilFunc => 2
  | .nilIface => 3
  | .tuple vs => if vs.size = 0 then 4 else 0
  | _ => 0

/-- A constant of one cell, as the interpreter has it. -/
def eqa (v : Value) : AV → Bool
  | .int k n => vInt k n v
  | .bool b => vBool b v
  | .str l => vStr l v
  | .nilsl => vNil v
  | .sl sz els => vNil v && (els.isEmpty && decide (1 ≤ sz))
  | .cv u => vPlain v == vPlain u && !(vPlain v == 0)
  | .any => true
  | _ => false

def eqas : List Value → List AV → Bool
  | [], [] => true
  | v :: vs, a :: as => eqa v a && (a.atom && eqas vs as)
  | _, _ => false

def vCells : Value → List Value
  | .agg cs => cs.toList
  | v => [v]
def vAgg : Value → Bool
  | .agg _ => true
  | _ => false

def eqv (v : Value) : AV → Bool
  | .agg as => vAgg v && eqas (vCells v) as
  | .int k n => eqa v (.int k n)
  | .bool b => eqa v (.bool b)
  | .str l => eqa v (.str l)
  | .nilsl => eqa v .nilsl
  | .sl sz els => eqa v (.sl sz els)
  | .cv u => eqa v (.cv u)
  | .any => true
  | _ => false

def chkSrc (vm ss : List Nat) : Operand → Src → Bool
  | .tmp t, .v n => vm[n]? == some t
  | .tmp t, .s n => ss[n]? == some t
  | .const v, .c a => eqv v a
  | .func f, .c (.fn (.func g) [] []) => f == g
  | _, _ => false

theorem eqas_len : ∀ (vs : List Value) (as : List AV), eqas vs as = true → vs.length = as.length
  | [], [], _ => rfl
  | [], _ :: _, h => by simp [eqas] at h
  | _ :: _, [], h => by simp [eqas] at h
  | v :: vs, a :: as, h => by
    simp only [eqas, Bool.and_eq_true] at h
    simp [eqas_len vs as h.2.2]

theorem eqas_get : ∀ (vs : List Value) (as : List AV) (j : Nat), eqas vs as = true → j < as.length → eqa (vs.getD j undef) (as.getD j .any) = true ∧ (as.getD j .any).atom = true
  | [], [], j, _, hj => by simp at hj
  | [], _ :: _, _, h, _ => by simp [eqas] at h
  | _ :: _, [], _, h, _ => by simp [eqas] at h
  | v :: vs, a :: as, 0, h, _ => by simp only [eqas, Bool.and_eq_true] at h; exact ⟨h.1, h.2.1⟩
  | v :: vs, a :: as, j + 1, h, hj => by
    simp only [eqas, Bool.and_eq_true] at h
    simpa using eqas_get vs as j h.2.2 (by simpa using hj)

theorem getD_toList (cs : Array Value) (j : Nat) : cs.toList.getD j undef = cs.getD j undef := by
  simp [List.getD_eq_getElem?_getD, Array.getD_eq_getD_getElem?]

theorem vPlain_eq {v u : Value} (h : vPlain v = vPlain u) (h0 : vPlain v ≠ 0) : v = u := by
  have key : ∀ x : Value, (vPlain x = 1 → x = .pointer none) ∧ (vPlain x = 2 → x = .nilFunc) ∧ (vPlain x = 3 → x = .nilIface) ∧ (vPlain x = 4 → x = .tuple #[]) ∧ vPlain x ≤ 4 := by
    intro x
    cases x
    case pointer p => cases p <;> simp [vPlain]
    case tuple vs =>
      simp only [vPlain]
      by_cases hs : vs.size = 0
      · have : vs = #[] := Array.eq_empty_of_size_eq_zero hs
        subst this; simp
      · simp [hs]
    all_goals simp [vPlain]
  obtain ⟨a1, a2, a3, a4, a5⟩ := key v
  obtain ⟨b1, b2, b3, b4, b5⟩ := key u
  have : vPlain v = 1 ∨ vPlain v = 2 ∨ vPlain v = 3 ∨ vPlain v = 4 := by omega
  rcases this with e | e | e | e
  · rw [a1 e, b1 (h ▸ e)]
  · rw [a2 e, b2 (h ▸ e)]
  · rw [a3 e, b3 (h ▸ e)]
  · rw [a4 e, b4 (h ▸ e)]

theorem eqa_VR {S : Nat → Prop} {w : World} {v : Value} {a : AV} (h : eqa v a = true) : VR S w v a := by
  cases a <;> simp only [eqa] at h <;> try (cases h; done)
  case any => exact .any
  case int k n =>
    cases v <;> simp [vInt] at h
    obtain ⟨rfl, rfl⟩ := h; exact .int
  case bool b => cases v <;> simp [vBool] at h; subst h; exact .bool
  case str l =>
    cases v <;> simp [vStr] at h
    rename_i s
    subst h
    have : s = ⟨s.data.toList.toArray⟩ := by cases s; simp
    rw [this]; exact .str
  case nilsl =>
    cases v <;> simp [vNil] at h
    obtain ⟨rfl, rfl, rfl⟩ := h; exact .nilsl
  case sl sz els =>
    cases v <;> simp [vNil] at h
    obtain ⟨⟨rfl, rfl, rfl⟩, h1, h2⟩ := h
    subst h1
    exact .sl 0 0 (fun _ _ => undef) rfl (Nat.le_refl _) h2 (fun c => by simp at c) (fun i hi => by simp at hi) (fun i j hi => by simp at hi) (fun i j hi => by simp at hi)
  case cv u =>
    simp only [Bool.and_eq_true, beq_iff_eq, Bool.not_eq_true', beq_eq_false_iff_ne] at h
    rw [vPlain_eq h.1 h.2]; exact .cv

theorem eqv_VR {S : Nat → Prop} {w : World} {v : Value} {a : AV} (h : eqv v a = true) : VR S w v a := by
  cases a <;> simp only [eqv] at h <;> try (cases h; done)
  case agg as =>
    simp only [Bool.and_eq_true] at h
    obtain ⟨h0, h⟩ := h
    cases v <;> simp [vAgg] at h0
    rename_i cs
    simp only [vCells] at h
    refine .agg (by simpa using eqas_len _ _ h) (fun j hj => (eqas_get _ _ j h hj).2) fun j hj => ?_
    have := eqas_get _ _ j h hj
    rw [← getD_toList]
    exact eqa_VR this.1
  case any => exact .any
  all_goals exact eqa_VR h

theorem VR.toSR {S : Nat → Prop} {w : World} {g : Gh} {ob : Obs} {v : Value} {a : AV} (h : VR S w v a) : SR S w g ob v a := by
  have one : ∀ {v a}, VR S w v a → SR1 S w g ob v a := by
    intro v a h
    cases a <;> first | exact h | (cases h)
  cases a
  case fn f a1 a2 => cases h with | fn n1 n2 h1 h2 => exact ⟨_, _, rfl, n1, n2, fun j hj => one (h1 j hj), fun j hj => one (h2 j hj)⟩
  case tup as => cases h with | tup n h1 => exact ⟨_, rfl, n, fun j hj => one (h1 j hj)⟩
  case opt b a' => cases h
  all_goals first | exact h | cases h

theorem SR1.toSR {S : Nat → Prop} {w : World} {g : Gh} {ob : Obs} {v : Value} {a : AV} (h : SR1 S w g ob v a) : SR S w g ob v a := by
  cases a
  case own => exact h
  case ref => exact h
  all_goals exact VR.toSR h

/-- An operand reads as the interpreter says. -/
theorem FR.src {F : Nat → Prop} {g : Gh} {w : World} {tmps : Array Value} {ds : List Deferred} {vm ss : List Nat} {s : St} (h : FR F g w tmps vm ss s) {x : Operand} {y : Src} (hc : chkSrc vm ss x y = true) :
    SR (SetOf F g s.ob) w g s.ob (({ tmps := tmps, defers := ds } : Act).eval x) (rd s y) := by
  cases x
  case tmp t =>
    cases y
    case v n =>
      simp only [chkSrc, beq_iff_eq] at hc
      have hl : n < vm.length := by
        rcases Nat.lt_or_ge n vm.length with h' | h'
        · exact h'
        · rw [List.getElem?_eq_none h'] at hc; cases hc
      have := h.vs n hl
      rw [List.getD_eq_getElem?_getD (l := vm), hc] at this
      exact this
    case s n =>
      simp only [chkSrc, beq_iff_eq] at hc
      have hl : n < ss.length := by
        rcases Nat.lt_or_ge n ss.length with h' | h'
        · exact h'
        · rw [List.getElem?_eq_none h'] at hc; cases hc
      have := h.st n hl
      rw [List.getD_eq_getElem?_getD (l := ss), hc] at this
      exact this
    case c a => simp [chkSrc] at hc
  case const v =>
    cases y <;> simp only [chkSrc] at hc <;> try (cases hc; done)
    exact (eqv_VR hc).toSR
  case func f =>
    cases y <;> try (simp [chkSrc] at hc; done)
    rename_i a
    cases a <;> try (simp [chkSrc] at hc; done)
    rename_i fn a1 a2
    cases fn <;> try (simp [chkSrc] at hc; done)
    cases a1 <;> cases a2 <;> simp [chkSrc] at hc
    subst hc
    exact ⟨#[], #[], rfl, rfl, rfl, fun j hj => by simp at hj, fun j hj => by simp at hj⟩
  case global g => cases y <;> simp [chkSrc] at hc

/-- What is asked of an operation that writes nothing. -/
def StillPost (S : Nat → Prop) (w : World) (g : Gh) (ob : Obs) (key : Nat) (m : Mk) (r : Result Next) : Prop :=
  ∃ v w', r = .ok (.value v) w' ∧ Same (fun _ => False) w w' ∧
    ((m.hs = [] ∧ SR S w' g ob v m.v) ∨
      ∃ k h b cap, m.hs = [(k, h)] ∧ (k / 32 = key ∧ k % 32 ≠ 31) ∧ w.heap.size ≤ b ∧ (∀ S' : Nat → Prop, (∀ c, S' c → S c ∨ c = b) → Home S' w' b cap h.sz h.els) ∧
      ((m.v = .own k ∧ (v = .slice (some ⟨b, 0, none⟩) h.els.length cap ∨ (cap = 0 ∧ v = .slice none 0 0))) ∨ (m.v = .ref k 0 0 ∧ 0 < h.els.length ∧ v = .pointer (some ⟨b, 0, none⟩))))

theorem StillPost.val {S : Nat → Prop} {w : World} {g : Gh} {ob : Obs} {key : Nat} {m : Mk} {r : Result Next} {v : Value} (hr : r = .ok (.value v) w) (hh : m.hs = []) (h : SR S w g ob v m.v) : StillPost S w g ob key m r :=
  ⟨v, w, hr, Same.refl _ _, .inl ⟨hh, h⟩⟩

/-! ### Reading a value's cells -/

theorem cells_oneCell {v : Value} (h : v.oneCell' = true) : v.cells = #[v] := by cases v <;> first | rfl | (simp [Value.oneCell'] at h)

theorem atoms_cells {a : AV} (h : a.atoms = true) {j : Nat} (hj : j < a.cells.length) : (a.cells.getD j .any).atom = true := by
  simp only [AV.atoms, List.all_eq_true] at h
  refine h _ ?_
  rw [List.getD_eq_getElem?_getD, List.getElem?_eq_getElem hj]
  exact List.getElem_mem hj

theorem cells_one {a : AV} (h : a.isAgg = false) : a.cells = [a] := by cases a <;> first | rfl | (simp [AV.isAgg] at h)

/-- A value whose cells are atoms: its cells read as the cells say. -/
theorem VR.cells {S : Nat → Prop} {w : World} {v : Value} {a : AV} (h : VR S w v a) (ha : a.atoms = true) :
    v.cells.size = a.cells.length ∧ ∀ j, j < a.cells.length → VR S w (v.cells.getD j undef) (a.cells.getD j .any) := by
  by_cases hg : a.isAgg = true
  · cases a <;> simp [AV.isAgg] at hg
    cases h with | agg hn _ h1 => exact ⟨hn, h1⟩
  · have hg' : a.isAgg = false := by simpa using hg
    have hc := cells_one hg'
    have hat : a.atom = true := by have := atoms_cells ha (j := 0) (by simp [hc]); simpa [hc] using this
    rw [cells_oneCell (h.oneCell hat), hc]
    refine ⟨rfl, fun j hj => ?_⟩
    have : j = 0 := by simpa using hj
    subst this
    exact h

theorem SR.atoms {S : Nat → Prop} {w : World} {g : Gh} {ob : Obs} {v : Value} {a : AV} (h : SR S w g ob v a) (ha : a.atoms = true) : VR S w v a := by
  cases a
  case fn f a1 a2 =>
    obtain ⟨v1, v2, rfl, n1, n2, h1, h2⟩ := h
    have hat : (AV.fn f a1 a2).atom = true := by simpa [AV.atoms, AV.cells] using ha
    simp only [AV.atom, List.all_append, Bool.and_eq_true, List.all_eq_true, List.isEmpty_iff] at hat
    have one : ∀ {u : Value} {as : List AV} {j : Nat}, j < as.length → (∀ x, x ∈ as → x.key1 = []) → SR1 S w g ob u (as.getD j .any) → VR S w u (as.getD j .any) := by
      intro u as j hj hall hs
      have hm : as.getD j .any ∈ as := by rw [List.getD_eq_getElem?_getD, List.getElem?_eq_getElem hj]; exact List.getElem_mem hj
      have hk := hall _ hm
      revert hs hk
      generalize as.getD j .any = x
      intro hs hk
      cases x <;> first | exact hs | (simp [AV.key1] at hk)
    exact .fn n1 n2 (fun j hj => one hj hat.1 (h1 j hj)) (fun j hj => one hj hat.2 (h2 j hj))
  all_goals first | exact h | (simp [AV.atoms, AV.cells, AV.atom] at ha)

theorem home_new {S S' : Nat → Prop} {w : World} {v : Value} {a : AV} (h : VR S w v a) (ha : a.atoms = true) (hp : 1 ≤ a.cells.length) (t : TypeId) (hS : ∀ c, S' c → S c ∨ c = w.heap.size) :
    Home S' (w.alloc (.cells v.cells t)) w.heap.size 1 a.cells.length [a] := by
  have hc := h.cells ha
  refine ⟨hp, by simp, fun i hi => ?_, fun _ => ⟨v.cells, t, (0, 0), heap_alloc_new _ _, .inl rfl, by simp [hc.1], fun i j hi hj => ?_⟩⟩
  · have : i = 0 := by simpa using hi
    subst this; exact ⟨rfl, ha⟩
  · have : i = 0 := by simpa using hi
    subst this
    simp only [Nat.zero_mul, Nat.zero_add, List.getD_cons_zero]
    refine (hc.2 j hj).mono (Same.alloc _ _ _) fun b hb hc => ?_
    rcases hS b hc with e | e
    · exact e
    · omega

theorem still_box {S : Nat → Prop} {w : World} {g : Gh} {ob : Obs} {key : Nat} {P : Program} {t : TypeId} {v : Value} {a : AV} (h : VR S w v a) (hok : (boxA (keyOf key) a).ok = true) {r : Result Next}
    (hr : r = .ok (.value (.pointer (some ⟨w.heap.size, 0, none⟩))) (w.alloc (.cells v.cells t))) : StillPost S w g ob key (boxA (keyOf key) a) r := by
  simp only [boxA, Bool.and_eq_true, decide_eq_true_eq] at hok
  exact ⟨_, _, hr, Same.alloc _ _ _, .inr ⟨_, _, w.heap.size, 1, rfl, by simp [keyOf], Nat.le_refl _, fun S' hS => home_new h hok.2 hok.1 t hS, .inr ⟨rfl, by simp, rfl⟩⟩⟩

end Go.Proofs.YtbobhejdijcofaaGreatDoor
