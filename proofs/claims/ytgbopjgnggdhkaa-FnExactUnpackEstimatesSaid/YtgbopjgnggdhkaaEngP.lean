/- The frame behind a call. No condition. -/
import Derived.Test.YtgbopjgnggdhkaaEngO
namespace Go.Proofs.Ytgbopjgnggdhkaa
open Go Go.RowKit
set_option linter.unusedSimpArgs false
set_option linter.unusedVariables false

theorem Invokes.mono {P : Program} {f : FuncId} {args : Array Value} {w : World} {R R' : Ending → World → Prop} (h : Invokes P f args w R) (hr : ∀ e w', R e w' → R' e w') : Invokes P f args w R' := by
  unfold Invokes at h ⊢
  split at h
  · exact hr _ _ h
  · exact Calls.mono h hr
  · exact h.elim

/-- The frame between the call and the taking back: the blocks of pend are not yet known. -/
structure FS (S : Nat → Prop) (pend : Nat → Prop) (g : Gh) (w : World) (tmps : Array Value) (vm ss : List Nat) (s : St) : Prop where
  home : ∀ k h, ¬ pend k → obGet k s.ob = some h → Home S w (g.β k) (g.cap k) h.sz h.els
  vl : s.vs.length = vm.length
  sl : s.st.length = ss.length
  vs : ∀ i, i < vm.length → SR S w g s.ob (tmps.getD (vm.getD i 0) undef) (s.vs.getD i .any)
  st : ∀ i, i < ss.length → SR S w g s.ob (tmps.getD (ss.getD i 0) undef) (s.st.getD i .any)
  fit : ∀ t, t ∈ vm ∨ t ∈ ss → t < tmps.size

def movKeys : List Md → List AV → List Nat
  | .mov :: ms, a :: as => a.key1 ++ movKeys ms as
  | .bor :: ms, _ :: as => movKeys ms as
  | .io :: ms, _ :: as => movKeys ms as
  | _, _ => []

theorem movKeys_sub : ∀ (ms : List Md) (as : List AV) {k : Nat}, k ∈ movKeys ms as → k ∈ ioKeys ms as
  | [], _, k, h => by simp [movKeys] at h
  | m :: _, [], k, h => by cases m <;> simp [movKeys] at h
  | m :: ms, a :: as, k, h => by
    have ih := @movKeys_sub ms as k
    cases m <;> simp only [movKeys, ioKeys, List.mem_append] at h ⊢
    · exact ih h
    · exact .inr (ih h)
    · exact h.imp id ih

section
variable {S : Nat → Prop} {pend : Nat → Prop} {F Iow : Nat → Prop} {w0 : World} {g0 : Gh} {o0 : Obs} {g : Gh} {w w' : World} {tmps : Array Value} {ds : List Deferred} {vm ss ss' : List Nat} {s : St} {P : Program} {o : Oper} {key : Nat}

theorem FS.forget (h : FS S pend g w tmps vm ss s) {ob' : Obs} (φ : AV → AV) (hany : φ .any = .any) (hob : ∀ k hm, obGet k ob' = some hm → obGet k s.ob = some hm)
    (hφ : ∀ a, φ a = .any ∨ (φ a = a ∧ ∀ k, k ∈ a.keys → ∀ hm, obGet k s.ob = some hm → obGet k ob' = some hm)) (ok : Bool) :
    FS S pend g w tmps vm ss { vs := s.vs.map φ, st := s.st.map φ, ob := ob', ok := ok } := by
  have one : ∀ {v a}, SR S w g s.ob v a → SR S w g ob' v (φ a) := by
    intro v a hv
    rcases hφ a with e | ⟨e, hk⟩
    · rw [e]; exact SR.any
    · rw [e]; exact hv.mono (Same.refl _ _) (fun _ _ c => c) fun k hkk hm hg => ⟨hm, hk k hkk hm hg, rfl, rfl, rfl, rfl⟩
  exact ⟨fun k hm hp hk => h.home k hm hp (hob k hm hk), by simpa using h.vl, by simpa using h.sl, fun i hi => by rw [getD_map_any φ hany]; exact one (h.vs i hi), fun i hi => by rw [getD_map_any φ hany]; exact one (h.st i hi), h.fit⟩

theorem FS.killAll (h : FS S pend g w tmps vm ss s) (k : Nat) : FS S pend g w tmps vm ss (killAll s k) := by
  refine h.forget (AV.kill k) (kill_any k) (fun j hm hk => ?_) (fun a => ?_) s.ok
  · rw [obGet_obDel] at hk; split at hk
    · cases hk
    · exact hk
  · rcases kill_cases k a with e | ⟨e, hn⟩
    · exact .inl e
    · refine .inr ⟨e, fun j hj hm hg => ?_⟩
      rw [obGet_obDel, if_neg (fun e : k = j => hn (by rw [e]; exact hj))]
      exact hg

theorem FS.clear (h : FS S pend g w tmps vm ss s) (d : Nat) : FS S pend g w tmps vm ss (clear s d) := by
  unfold Go.Proofs.Ytgbopjgnggdhkaa.clear
  rw [cond_eq_if]
  split
  · refine h.forget (clr d) (by simp [clr, AV.keys]) (fun k hm hk => ?_) (fun a => ?_) s.ok
    · rw [obGet_clrOb] at hk; split at hk
      · cases hk
      · exact hk
    · by_cases hc : a.keys.any (fun k => k / 32 == d) = true
      · exact .inl (by simp only [clr, cond_eq_if]; rw [if_pos hc])
      · refine .inr ⟨by simp only [clr, cond_eq_if]; rw [if_neg hc], fun k hk hm hg => ?_⟩
        rw [obGet_clrOb, if_neg (fun e => hc (List.any_eq_true.2 ⟨k, hk, by simp [e]⟩))]
        exact hg
  · exact h

theorem FS.setIo (h : FS S pend g w tmps vm ss s) {k : Nat} {hm h2 : Hm} (hk : obGet k s.ob = some hm) (hz : h2.sz = hm.sz) (hl : h2.els.length = hm.els.length) (hH : Home S w (g.β k) (g.cap k) h2.sz h2.els) :
    FS S (fun j => pend j ∧ j ≠ k) g w tmps vm ss { s with ob := obSet k h2 s.ob } := by
  have key : ∀ j, KeyOk g g s.ob (obSet k h2 s.ob) j := fun j => KeyOk.set hk hl hz j
  refine ⟨fun j h' hp hg => ?_, h.vl, h.sl, fun i hi => (h.vs i hi).mono (Same.refl _ _) (fun _ _ c => c) fun j _ => key j, fun i hi => (h.st i hi).mono (Same.refl _ _) (fun _ _ c => c) fun j _ => key j, h.fit⟩
  simp only [obGet_obSet] at hg
  by_cases e : k = j
  · subst e; rw [if_pos rfl] at hg; cases hg; exact hH
  · rw [if_neg e] at hg; exact h.home j h' (fun c => hp ⟨c, Ne.symm e⟩) hg

theorem FS.pend' (h : FS S pend g w tmps vm ss s) {pend' : Nat → Prop} (hp : ∀ k, inOb s.ob k → pend k → pend' k) : FS S pend' g w tmps vm ss s :=
  ⟨fun k hm hn hg => h.home k hm (fun c => hn (hp k ⟨hm, hg⟩ c)) hg, h.vl, h.sl, h.vs, h.st, h.fit⟩

/-- What is asked of what comes back in the blocks that were handed over. -/
def IoBack (S : Nat → Prop) (g : Gh) (w : World) (ob : Obs) (ms : List Md) (as os : List AV) : Prop :=
  ∀ j, j < as.length → ms.getD j .bor = .io → ∃ k hm sz els, ((as.getD j .any = .own k ∧ os.getD j .any = .fresh sz els) ∨ (as.getD j .any = .ref k 0 0 ∧ os.getD j .any = .mem sz els)) ∧
    obGet k ob = some hm ∧ sz = hm.sz ∧ els.length = hm.els.length ∧ Home S w (g.β k) (g.cap k) sz els

theorem IoBack.tail {ob ob' : Obs} {m : Md} {a q : AV} {ms : List Md} {as os : List AV} (hI : IoBack S g w ob (m :: ms) (a :: as) (q :: os)) (hl : ms.length = as.length)
    (hk : ∀ k, k ∈ ioKeys ms as → ∀ hm, obGet k ob = some hm → obGet k ob' = some hm) : IoBack S g w ob' ms as os := by
  intro j hj hm
  obtain ⟨k, h0, sz, els, h1, h2, h3⟩ := hI (j + 1) (by simpa using hj) (by simpa using hm)
  simp only [List.getD_cons_succ] at h1
  refine ⟨k, h0, sz, els, h1, hk k (ioKeys_mem ms as j hl hj (by rw [hm]; decide) k ?_) h0 h2, h3⟩
  rcases h1 with ⟨e, _⟩ | ⟨e, _⟩ <;> rw [e] <;> simp [AV.key1]

theorem takeBack_ok : ∀ (ms : List Md) (as os : List AV) {s : St} {pend : Nat → Prop}, FS S pend g w tmps vm ss s → ms.length = as.length → IoBack S g w s.ob ms as os → distinct (ioKeys ms as) = true → (takeBack s ms as os).ok = true →
    FS S (fun k => pend k ∧ k ∉ ioKeys ms as) g w tmps vm ss (takeBack s ms as os) ∧ s.ok = true ∧
    (∀ k h', obGet k (takeBack s ms as os).ob = some h' → k ∉ movKeys ms as ∧ ∃ h0, obGet k s.ob = some h0 ∧ h'.sz = h0.sz ∧ h'.els.length = h0.els.length)
  | [], [], os, s, pend, h, _, _, _, hok => by
    cases os with
    | nil => simp only [takeBack] at hok ⊢; exact ⟨by simpa [ioKeys] using h, hok, fun k h' hg => ⟨by simp [movKeys], h', hg, rfl, rfl⟩⟩
    | cons q os => simp [takeBack, fail] at hok
  | [], _ :: _, _, _, _, _, hl, _, _, _ => by simp at hl
  | _ :: _, [], _, _, _, _, hl, _, _, _ => by simp at hl
  | m :: ms, a :: as, [], s, pend, h, _, _, _, hok => by cases m <;> cases a <;> simp [takeBack, fail] at hok
  | .bor :: ms, a :: as, q :: os, s, pend, h, hl, hI, hd, hok => by
    simp only [takeBack] at hok ⊢
    exact takeBack_ok ms as os h (by simpa using hl) (hI.tail (by simpa using hl) fun _ _ _ c => c) (by simpa [ioKeys] using hd) hok
  | .io :: ms, a :: as, q :: os, s, pend, h, hl, hI, hd, hok => by
    have hl' : ms.length = as.length := by simpa using hl
    obtain ⟨k, h0, sz, els, h1, h2, h3, h4, h5⟩ := hI 0 (by simp) rfl
    simp only [List.getD_cons_zero] at h1
    have hkey : a.key1 = [k] := by rcases h1 with ⟨e, _⟩ | ⟨e, _⟩ <;> rw [e] <;> rfl
    have hd' : distinct (a.key1 ++ ioKeys ms as) = true := by simpa [ioKeys] using hd
    rw [hkey] at hd'
    obtain ⟨hd1, hd2⟩ := distinct_app hd'
    have hstep : takeBack s (.io :: ms) (a :: as) (q :: os) = takeBack { s with ob := obSet k ⟨sz, els⟩ s.ob } ms as os := by
      rcases h1 with ⟨e1, e2⟩ | ⟨e1, e2⟩ <;> subst e1 <;> subst e2 <;> rfl
    rw [hstep] at hok ⊢
    have hset := h.setIo (h2 := ⟨sz, els⟩) h2 h3 h4 h5
    obtain ⟨r1, r2, r3⟩ := takeBack_ok ms as os hset hl' (hI.tail hl' fun j hj hm hg => by
      have : k ≠ j := fun e => hd2 k (by simp) (e ▸ hj)
      rw [obGet_obSet, if_neg this]; exact hg) hd1 hok
    refine ⟨r1.pend' fun j _ hp => ⟨hp.1.1, ?_⟩, r2, fun j h' hg => ?_⟩
    · simp only [ioKeys, hkey, List.mem_append, List.mem_singleton]
      rintro (e | e)
      · exact hp.1.2 e
      · exact hp.2 e
    · obtain ⟨e0, e1, e2, e3, e4⟩ := r3 j h' hg
      refine ⟨by simpa [movKeys] using e0, ?_⟩
      simp only [obGet_obSet] at e2
      by_cases e : k = j
      · subst e
        rw [if_pos rfl] at e2; cases e2
        exact ⟨h0, h2, by rw [e3, h3], by rw [e4, h4]⟩
      · rw [if_neg e] at e2; exact ⟨e1, e2, e3, e4⟩
  | .mov :: ms, a :: as, q :: os, s, pend, h, hl, hI, hd, hok => by
    have hl' : ms.length = as.length := by simpa using hl
    have hd' : distinct (a.key1 ++ ioKeys ms as) = true := by simpa [ioKeys] using hd
    obtain ⟨hd1, hd2⟩ := distinct_app hd'
    cases a <;> simp only [takeBack, fail] at hok <;> try (cases hok; done)
    case nilsl =>
      simp only [takeBack] at hok ⊢
      obtain ⟨r1, r2, r3⟩ := takeBack_ok ms as os h hl' (hI.tail hl' fun _ _ _ c => c) hd1 hok
      exact ⟨by simpa [ioKeys, AV.key1] using r1, r2, by simpa [movKeys, AV.key1] using r3⟩
    case own k =>
      simp only [takeBack] at hok ⊢
      obtain ⟨r1, r2, r3⟩ := takeBack_ok ms as os (h.killAll k) hl' (hI.tail hl' fun j hj hm hg => by
        have : k ≠ j := fun e => hd2 k (by simp [AV.key1]) (e ▸ hj)
        simp only [Go.Proofs.Ytgbopjgnggdhkaa.killAll]
        rw [obGet_obDel, if_neg this]; exact hg) hd1 hok
      have hgone : ∀ j h', obGet j (takeBack (Go.Proofs.Ytgbopjgnggdhkaa.killAll s k) ms as os).ob = some h' → j ≠ k := fun j h' hg e => by
        obtain ⟨_, e1, e2, _⟩ := r3 j h' hg
        simp only [Go.Proofs.Ytgbopjgnggdhkaa.killAll] at e2
        rw [obGet_obDel, if_pos e.symm] at e2; cases e2
      refine ⟨r1.pend' fun j ⟨h', hg⟩ hp => ⟨hp.1, ?_⟩, r2, fun j h' hg => ?_⟩
      · simp only [ioKeys, AV.key1, List.mem_append, List.mem_singleton]
        rintro (e | e)
        · exact hgone j h' hg e
        · exact hp.2 e
      · obtain ⟨e0, e1, e2, e3, e4⟩ := r3 j h' hg
        have hjk := hgone j h' hg
        refine ⟨?_, e1, ?_, e3, e4⟩
        · simp only [movKeys, AV.key1, List.mem_append, List.mem_singleton]
          rintro (e | e)
          · exact hjk e
          · exact e0 e
        · simp only [Go.Proofs.Ytgbopjgnggdhkaa.killAll] at e2
          rw [obGet_obDel, if_neg (Ne.symm hjk)] at e2; exact e2

end
end Go.Proofs.Ytgbopjgnggdhkaa
