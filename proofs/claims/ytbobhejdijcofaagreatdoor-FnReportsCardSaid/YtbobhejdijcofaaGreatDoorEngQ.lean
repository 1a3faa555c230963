/- A call. No condition. -/
import Derived.Test.YtbobhejdijcofaaGreatDoorEngO
namespace Go.Proofs.YtbobhejdijcofaaGreatDoor
open Go Go.RowKit
set_option linter.unusedSimpArgs false
set_option linter.unusedVariables false

theorem Invokes.mono {P : Program} {f : FuncId} {args : Array Value} {w : World} {R R' : Ending → World → Prop} (h : Invokes P f args w R) (hr : ∀ e w', R e w' → R' e w') : Invokes P f args w R' := by
  unfold Invokes at h ⊢
  split at h
  · exact hr _ _ h
  · exact Calls.mono h hr
  · exact h.elim

/-- The frame between the call and the taking back: the blocks of pend are not yet known. -/
structure FrSt (S : Nat → Prop) (pend : Nat → Prop) (g : Gh) (w : World) (tmps : Array Value) (vm ss : List Nat) (s : St) : Prop where
  home : ∀ k h, ¬ pend k → obGet k s.ob = some h → Home S w (g.β k) (g.cap k) h.sz h.els
  vl : s.vs.length = vm.length
  sl : s.st.length = ss.length
  vs : ∀ i, i < vm.length → SR S w g s.ob (tmps.getD (vm.getD i 0) undef) (s.vs.getD i .any)
  st : ∀ i, i < ss.length → SR S w g s.ob (tmps.getD (ss.getD i 0) undef) (s.st.getD i .any)
  fit : ∀ t, t ∈ vm ∨ t ∈ ss → t < tmps.size

def movKeys : List Md → List AV → List Nat
  | .mov :: ms, a :: as => a.key1 ++ movKeys ms as
  | .bor :: ms, _ :: as => movKeys ms as
  | .io :: ms, _ :: as => movKeys ms as
  | _, _ => []

theorem movKeys_sub : ∀ (ms : List Md) (as : List AV) {k : Nat}, k ∈ movKeys ms as → k ∈ ioKeys ms as
  | [], _, k, h => by simp [movKeys] at h
  | m :: _, [], k, h => by cases m <;> simp [movKeys] at h
  | m :: ms, a :: as, k, h => by
    have ih := @movKeys_sub ms as k
    cases m <;> simp only [movKeys, ioKeys, List.mem_append] at h ⊢
    · exact ih h
    · exact .inr (ih h)
    · exact h.imp id ih

section
variable {S : Nat → Prop} {pend : Nat → Prop} {F Iow : Nat → Prop} {w0 : World} {g0 : Gh} {o0 : Obs} {g : Gh} {w w' : World} {tmps : Array Value} {ds : List Deferred} {vm ss ss' : List Nat} {s : St} {P : Program} {o : Oper} {key : Nat}

theorem FrSt.forget (h : FrSt S pend g w tmps vm ss s) {ob' : Obs} (φ : AV → AV) (hany : φ .any = .any) (hob : ∀ k hm, obGet k ob' = some hm → obGet k s.ob = some hm)
    (hφ : ∀ a, φ a = .any ∨ (φ a = a ∧ ∀ k, k ∈ a.keys → ∀ hm, obGet k s.ob = some hm → obGet k ob' = some hm)) (ok : Bool) :
    FrSt S pend g w tmps vm ss { vs := s.vs.map φ, st := s.st.map φ, ob := ob', ok := ok } := by
  have one : ∀ {v a}, SR S w g s.ob v a → SR S w g ob' v (φ a) := by
    intro v a hv
    rcases hφ a with e | ⟨e, hk⟩
    · rw [e]; exact SR.any
    · rw [e]; exact hv.mono (Same.refl _ _) (fun _ _ c => c) fun k hkk hm hg => ⟨hm, hk k hkk hm hg, rfl, rfl, rfl, rfl⟩
  exact ⟨fun k hm hp hk => h.home k hm hp (hob k hm hk), by simpa using h.vl, by simpa using h.sl, fun i hi => by rw [getD_map_any φ hany]; exact one (h.vs i hi), fun i hi => by rw [getD_map_any φ hany]; exact one (h.st i hi), h.fit⟩

theorem FrSt.killAll (h : FrSt S pend g w tmps vm ss s) (k : Nat) : FrSt S pend g w tmps vm ss (killAll s k) := by
  refine h.forget (AV.kill k) (kill_any k) (fun j hm hk => ?_) (fun a => ?_) s.ok
  · rw [obGet_obDel] at hk; split at hk
    · cases hk
    · exact hk
  · rcases kill_cases k a with e | ⟨e, hn⟩
    · exact .inl e
    · refine .inr ⟨e, fun j hj hm hg => ?_⟩
      rw [obGet_obDel, if_neg (fun e : k = j => hn (by rw [e]; exact hj))]
      exact hg

theorem FrSt.clear (h : FrSt S pend g w tmps vm ss s) (d : Nat) : FrSt S pend g w tmps vm ss (clear s d) := by
  unfold Go.Proofs.YtbobhejdijcofaaGreatDoor.clear
  rw [cond_eq_if]
  split
  · refine h.forget (clr d) (by simp [clr, AV.keys]) (fun k hm hk => ?_) (fun a => ?_) s.ok
    · rw [obGet_clrOb] at hk; split at hk
      · cases hk
      · exact hk
    · by_cases hc : a.keys.any (fun k => k / 32 == d) = true
      · exact .inl (by simp only [clr, cond_eq_if]; rw [if_pos hc])
      · refine .inr ⟨by simp only [clr, cond_eq_if]; rw [if_neg hc], fun k hk hm hg => ?_⟩
        rw [obGet_clrOb, if_neg (fun e => hc (List.any_eq_true.2 ⟨k, hk, by simp [e]⟩))]
        exact hg
  · exact h

theorem FrSt.setIo (h : FrSt S pend g w tmps vm ss s) {k : Nat} {hm h2 : Hm} (hk : obGet k s.ob = some hm) (hz : h2.sz = hm.sz) (hl : h2.els.length = hm.els.length) (hH : Home S w (g.β k) (g.cap k) h2.sz h2.els) :
    FrSt S (fun j => pend j ∧ j ≠ k) g w tmps vm ss { s with ob := obSet k h2 s.ob } := by
  have key : ∀ j, KeyOk g g s.ob (obSet k h2 s.ob) j := fun j => KeyOk.set hk hl hz j
  refine ⟨fun j h' hp hg => ?_, h.vl, h.sl, fun i hi => (h.vs i hi).mono (Same.refl _ _) (fun _ _ c => c) fun j _ => key j, fun i hi => (h.st i hi).mono (Same.refl _ _) (fun _ _ c => c) fun j _ => key j, h.fit⟩
  simp only [obGet_obSet] at hg
  by_cases e : k = j
  · subst e; rw [if_pos rfl] at hg; cases hg; exact hH
  · rw [if_neg e] at hg; exact h.home j h' (fun c => hp ⟨c, Ne.symm e⟩) hg

theorem FrSt.pend' (h : FrSt S pend g w tmps vm ss s) {pend' : Nat → Prop} (hp : ∀ k, inOb s.ob k → pend k → pend' k) : FrSt S pend' g w tmps vm ss s :=
  ⟨fun k hm hn hg => h.home k hm (fun c => hn (hp k ⟨hm, hg⟩ c)) hg, h.vl, h.sl, h.vs, h.st, h.fit⟩

/-- What is asked of what comes back in the blocks that were handed over. -/
def IoBack (S : Nat → Prop) (g : Gh) (w : World) (ob : Obs) (ms : List Md) (as os : List AV) : Prop :=
  ∀ j, j < as.length → ms.getD j .bor = .io → ∃ k hm sz els, ((as.getD j .any = .own k ∧ os.getD j .any = .fresh sz els) ∨ (∃ i i', as.getD j .any = .ref k i 0 ∧ os.getD j .any = .mem sz els i')) ∧
    obGet k ob = some hm ∧ sz = hm.sz ∧ els.length = hm.els.length ∧ Home S w (g.β k) (g.cap k) sz els

theorem IoBack.tail {ob ob' : Obs} {m : Md} {a q : AV} {ms : List Md} {as os : List AV} (hI : IoBack S g w ob (m :: ms) (a :: as) (q :: os)) (hl : ms.length = as.length)
    (hk : ∀ k, k ∈ ioKeys ms as → ∀ hm, obGet k ob = some hm → obGet k ob' = some hm) : IoBack S g w ob' ms as os := by
  intro j hj hm
  obtain ⟨k, h0, sz, els, h1, h2, h3⟩ := hI (j + 1) (by simpa using hj) (by simpa using hm)
  simp only [List.getD_cons_succ] at h1
  refine ⟨k, h0, sz, els, h1, hk k (ioKeys_mem ms as j hl hj (by rw [hm]; decide) k ?_) h0 h2, h3⟩
  rcases h1 with ⟨e, _⟩ | ⟨_, _, e, _⟩ <;> rw [e] <;> simp [AV.key1]

theorem takeBack_ok : ∀ (ms : List Md) (as os : List AV) {s : St} {pend : Nat → Prop}, FrSt S pend g w tmps vm ss s → ms.length = as.length → IoBack S g w s.ob ms as os → distinct (ioKeys ms as) = true → (takeBack s ms as os).ok = true →
    FrSt S (fun k => pend k ∧ k ∉ ioKeys ms as) g w tmps vm ss (takeBack s ms as os) ∧ s.ok = true ∧
    (∀ k h', obGet k (takeBack s ms as os).ob = some h' → k ∉ movKeys ms as ∧ ∃ h0, obGet k s.ob = some h0 ∧ h'.sz = h0.sz ∧ h'.els.length = h0.els.length)
  | [], [], os, s, pend, h, _, _, _, hok => by
    cases os with
    | nil => simp only [takeBack] at hok ⊢; exact ⟨by simpa [ioKeys] using h, hok, fun k h' hg => ⟨by simp [movKeys], h', hg, rfl, rfl⟩⟩
    | cons q os => simp [takeBack, fail] at hok
  | [], _ :: _, _, _, _, _, hl, _, _, _ => by simp at hl
  | _ :: _, [], _, _, _, _, hl, _, _, _ => by simp at hl
  | m :: ms, a :: as, [], s, pend, h, _, _, _, hok => by cases m <;> cases a <;> simp [takeBack, fail] at hok
  | .bor :: ms, a :: as, q :: os, s, pend, h, hl, hI, hd, hok => by
    simp only [takeBack] at hok ⊢
    exact takeBack_ok ms as os h (by simpa using hl) (hI.tail (by simpa using hl) fun _ _ _ c => c) (by simpa [ioKeys] using hd) hok
  | .io :: ms, a :: as, q :: os, s, pend, h, hl, hI, hd, hok => by
    have hl' : ms.length = as.length := by simpa using hl
    obtain ⟨k, h0, sz, els, h1, h2, h3, h4, h5⟩ := hI 0 (by simp) rfl
    simp only [List.getD_cons_zero] at h1
    have hkey : a.key1 = [k] := by rcases h1 with ⟨e, _⟩ | ⟨_, _, e, _⟩ <;> rw [e] <;> rfl
    have hd' : distinct (a.key1 ++ ioKeys ms as) = true := by simpa [ioKeys] using hd
    rw [hkey] at hd'
    obtain ⟨hd1, hd2⟩ := distinct_app hd'
    have hstep : takeBack s (.io :: ms) (a :: as) (q :: os) = takeBack { s with ob := obSet k ⟨sz, els⟩ s.ob } ms as os := by
      rcases h1 with ⟨e1, e2⟩ | ⟨_, _, e1, e2⟩ <;> subst e1 <;> subst e2 <;> rfl
    rw [hstep] at hok ⊢
    have hset := h.setIo (h2 := ⟨sz, els⟩) h2 h3 h4 h5
    obtain ⟨r1, r2, r3⟩ := takeBack_ok ms as os hset hl' (hI.tail hl' fun j hj hm hg => by
      have : k ≠ j := fun e => hd2 k (by simp) (e ▸ hj)
      rw [obGet_obSet, if_neg this]; exact hg) hd1 hok
    refine ⟨r1.pend' fun j _ hp => ⟨hp.1.1, ?_⟩, r2, fun j h' hg => ?_⟩
    · simp only [ioKeys, hkey, List.mem_append, List.mem_singleton]
      rintro (e | e)
      · exact hp.1.2 e
      · exact hp.2 e
    · obtain ⟨e0, e1, e2, e3, e4⟩ := r3 j h' hg
      refine ⟨by simpa [movKeys] using e0, ?_⟩
      simp only [obGet_obSet] at e2
      by_cases e : k = j
      · subst e
        rw [if_pos rfl] at e2; cases e2
        exact ⟨h0, h2, by rw [e3, h3], by rw [e4, h4]⟩
      · rw [if_neg e] at e2; exact ⟨e1, e2, e3, e4⟩
  | .mov :: ms, a :: as, q :: os, s, pend, h, hl, hI, hd, hok => by
    have hl' : ms.length = as.length := by simpa using hl
    have hd' : distinct (a.key1 ++ ioKeys ms as) = true := by simpa [ioKeys] using hd
    obtain ⟨hd1, hd2⟩ := distinct_app hd'
    cases a <;> simp only [takeBack, fail] at hok <;> try (cases hok; done)
    case nilsl =>
      simp only [takeBack] at hok ⊢
      obtain ⟨r1, r2, r3⟩ := takeBack_ok ms as os h hl' (hI.tail hl' fun _ _ _ c => c) hd1 hok
      exact ⟨by simpa [ioKeys, AV.key1] using r1, r2, by simpa [movKeys, AV.key1] using r3⟩
    case own k =>
      simp only [takeBack] at hok ⊢
      obtain ⟨r1, r2, r3⟩ := takeBack_ok ms as os (h.killAll k) hl' (hI.tail hl' fun j hj hm hg => by
        have : k ≠ j := fun e => hd2 k (by simp [AV.key1]) (e ▸ hj)
        simp only [Go.Proofs.YtbobhejdijcofaaGreatDoor.killAll]
        rw [obGet_obDel, if_neg this]; exact hg) hd1 hok
      have hgone : ∀ j h', obGet j (takeBack (Go.Proofs.YtbobhejdijcofaaGreatDoor.killAll s k) ms as os).ob = some h' → j ≠ k := fun j h' hg e => by
        obtain ⟨_, e1, e2, _⟩ := r3 j h' hg
        simp only [Go.Proofs.YtbobhejdijcofaaGreatDoor.killAll] at e2
        rw [obGet_obDel, if_pos e.symm] at e2; cases e2
      refine ⟨r1.pend' fun j ⟨h', hg⟩ hp => ⟨hp.1, ?_⟩, r2, fun j h' hg => ?_⟩
      · simp only [ioKeys, AV.key1, List.mem_append, List.mem_singleton]
        rintro (e | e)
        · exact hgone j h' hg e
        · exact hp.2 e
      · obtain ⟨e0, e1, e2, e3, e4⟩ := r3 j h' hg
        have hjk := hgone j h' hg
        refine ⟨?_, e1, ?_, e3, e4⟩
        · simp only [movKeys, AV.key1, List.mem_append, List.mem_singleton]
          rintro (e | e)
          · exact hjk e
          · exact e0 e
        · simp only [Go.Proofs.YtbobhejdijcofaaGreatDoor.killAll] at e2
          rw [obGet_obDel, if_neg (Ne.symm hjk)] at e2; exact e2

end

open Go Go.RowKit
set_option linter.unusedSimpArgs false
set_option linter.unusedVariables false

/-! ### The result is taken up -/

def fposB (r : AV) (i : Nat) : Bool :=
  match r with
  | .tup as => decide (1 ≤ i) && (decide (i ≤ as.length) && isFr (as.getD (i - 1) .any))
  | a => decide (i = 0) && isFr a

theorem fposB_iff {r : AV} {i : Nat} : fposB r i = true ↔ fpos r i := by
  cases r <;> simp only [fposB, fpos, Bool.and_eq_true, decide_eq_true_eq]
  case tup as =>
    constructor
    · rintro ⟨h1, h2, h3⟩; exact ⟨i - 1, by omega, by omega, h3⟩
    · rintro ⟨j, rfl, hj, hf⟩; exact ⟨by omega, by omega, by simpa using hf⟩

/-- The part of a result at a place. -/
def partOf (r : AV) (i : Nat) : AV :=
  match r with
  | .tup as => as.getD (i - 1) .any
  | a => a

theorem adoptB_get (k d : Nat) : ∀ (cs : List AV) (j : Nat) (ob : Obs), j + cs.length ≤ 32 →
    obGet k (addAll ob (adoptB d j cs)) = if k / 32 = d ∧ j ≤ k % 32 ∧ k % 32 < j + cs.length ∧ isFr (cs.getD (k % 32 - j) .any) = true then fmHm (cs.getD (k % 32 - j) .any) else obGet k ob
  | [], j, ob, _ => by simp only [adoptB, addAll, List.length_nil]; rw [if_neg (by omega)]
  | a :: r, j, ob, hl => by
    simp only [List.length_cons] at hl ⊢
    have ih := fun ob => adoptB_get k d r (j + 1) ob (by omega)
    have skip : isFr a = false → obGet k (addAll ob (adoptB d (j + 1) r)) = if k / 32 = d ∧ j ≤ k % 32 ∧ k % 32 < j + (r.length + 1) ∧ isFr ((a :: r).getD (k % 32 - j) .any) = true then fmHm ((a :: r).getD (k % 32 - j) .any) else obGet k ob := by
      intro hf
      rw [ih]
      by_cases e : k % 32 = j
      · rw [if_neg (by omega), if_neg]
        rintro ⟨_, _, _, h⟩
        rw [e, Nat.sub_self, List.getD_cons_zero, hf] at h; cases h
      · by_cases e2 : j ≤ k % 32
        · have e3 : k % 32 - j = (k % 32 - (j + 1)) + 1 := by omega
          rw [e3, List.getD_cons_succ]
          by_cases e4 : k / 32 = d ∧ j + 1 ≤ k % 32 ∧ k % 32 < j + 1 + r.length ∧ isFr (r.getD (k % 32 - (j + 1)) .any) = true
          · rw [if_pos e4, if_pos ⟨e4.1, e2, by omega, e4.2.2.2⟩]
          · rw [if_neg e4, if_neg]
            rintro ⟨h1, h2, h3, h4⟩
            exact e4 ⟨h1, by omega, by omega, h4⟩
        · rw [if_neg (by omega), if_neg (by omega)]
    have put : ∀ (sz : Nat) (els : List AV) (x : AV), isFr x = true → fmHm x = some ⟨sz, els⟩ → adoptB d j (x :: r) = (keyOf d + j, ⟨sz, els⟩) :: adoptB d (j + 1) r → obGet k (addAll ob (adoptB d j (x :: r))) = if k / 32 = d ∧ j ≤ k % 32 ∧ k % 32 < j + (r.length + 1) ∧ isFr ((x :: r).getD (k % 32 - j) .any) = true then fmHm ((x :: r).getD (k % 32 - j) .any) else obGet k ob := by
      intro sz els x hx1 hx2 hx3
      rw [hx3]
      simp only [addAll]
      rw [ih, obGet_obSet]
      by_cases e : k % 32 = j
      · rw [if_neg (by omega)]
        by_cases e1 : k / 32 = d
        · rw [if_pos (by unfold keyOf; omega), if_pos ⟨e1, by omega, by omega, by rw [e, Nat.sub_self]; exact hx1⟩, e, Nat.sub_self]; exact hx2.symm
        · rw [if_neg (by unfold keyOf; omega), if_neg (by omega)]
      · by_cases e2 : j ≤ k % 32
        · have e3 : k % 32 - j = (k % 32 - (j + 1)) + 1 := by omega
          rw [e3, List.getD_cons_succ, if_neg (c := keyOf d + j = k) (by unfold keyOf; omega)]
          by_cases e4 : k / 32 = d ∧ j + 1 ≤ k % 32 ∧ k % 32 < j + 1 + r.length ∧ isFr (r.getD (k % 32 - (j + 1)) .any) = true
          · rw [if_pos e4, if_pos ⟨e4.1, e2, by omega, e4.2.2.2⟩]
          · rw [if_neg e4, if_neg]
            rintro ⟨h1, h2, h3, h4⟩
            exact e4 ⟨h1, by omega, by omega, h4⟩
        · rw [if_neg (by omega), if_neg (c := keyOf d + j = k) (by unfold keyOf; omega), if_neg (by omega)]
    cases a
    case fresh sz els => exact put sz els _ rfl rfl rfl
    case mem sz els ix => exact put sz els _ rfl rfl rfl
    all_goals exact skip rfl

theorem adopt_get {d : Nat} {r : AV} (hok : (adopt d r).ok = true) (k : Nat) (ob : Obs) : obGet k (addAll ob (adopt d r).hs) = if k / 32 = d ∧ fposB r (k % 32) = true then fmHm (partOf r (k % 32)) else obGet k ob := by
  have none : (adopt d r).hs = [] → (∀ i, fposB r i = false) → obGet k (addAll ob (adopt d r).hs) = if k / 32 = d ∧ fposB r (k % 32) = true then fmHm (partOf r (k % 32)) else obGet k ob := by
    intro h0 h1
    rw [h0, h1]; simp [addAll]
  cases r
  case tup cs =>
    simp only [adopt, decide_eq_true_eq] at hok ⊢
    rw [adoptB_get k d cs 1 ob (by omega)]
    simp only [fposB, partOf, Bool.and_eq_true, decide_eq_true_eq]
    by_cases e : k / 32 = d ∧ 1 ≤ k % 32 ∧ k % 32 < 1 + cs.length ∧ isFr (cs.getD (k % 32 - 1) .any) = true
    · rw [if_pos e, if_pos ⟨e.1, e.2.1, by omega, e.2.2.2⟩]
    · rw [if_neg e, if_neg]
      rintro ⟨h1, h2, h3, h4⟩
      exact e ⟨h1, h2, by omega, h4⟩
  case fresh sz els =>
    simp only [adopt, addAll, obGet_obSet, fposB, partOf, isFr, Bool.and_true, decide_eq_true_eq, fmHm]
    by_cases e : k / 32 = d ∧ k % 32 = 0
    · rw [if_pos e, if_pos (by unfold keyOf; omega)]
    · rw [if_neg e, if_neg (by unfold keyOf; omega)]
  case fn f a b => exact none (by simp [adopt, when]) (fun i => by simp [fposB, isFr])
  case own => simp [adopt, bad] at hok
  case mem sz els ix =>
    simp only [adopt, addAll, obGet_obSet, fposB, partOf, isFr, Bool.and_true, decide_eq_true_eq, fmHm]
    by_cases e : k / 32 = d ∧ k % 32 = 0
    · rw [if_pos e, if_pos (by unfold keyOf; omega)]
    · rw [if_neg e, if_neg (by unfold keyOf; omega)]
  case ref => simp [adopt, bad] at hok
  case opt => simp [adopt, bad] at hok
  all_goals exact none rfl (fun i => by simp [fposB, isFr])

theorem adoptL_get (d : Nat) : ∀ (cs : List AV) (j i : Nat), i < cs.length → (adoptL d j cs).getD i .any = match cs.getD i .any with | .fresh _ _ => .own (keyOf d + (j + i)) | .mem _ _ _ => .ref (keyOf d + (j + i)) 0 0 | x => x
  | [], _, _, h => by simp at h
  | a :: r, j, 0, _ => by cases a <;> rfl
  | a :: r, j, i + 1, h => by
    have ih := adoptL_get d r (j + 1) i (by simpa using h)
    rw [List.getD_cons_succ, show j + (i + 1) = j + 1 + i by omega, ← ih]
    cases a <;> rfl

theorem adoptL_len (d : Nat) : ∀ (cs : List AV) (j : Nat), (adoptL d j cs).length = cs.length
  | [], _ => rfl
  | a :: r, j => by
    have ih := adoptL_len d r (j + 1)
    cases a <;> simp [adoptL, ih]

theorem VR.toSR1 {S : Nat → Prop} {w : World} {g : Gh} {ob : Obs} {v : Value} {a : AV} (h : VR S w v a) : SR1 S w g ob v a := by
  cases a <;> first | exact h | (cases h)

theorem FS_put {S : Nat → Prop} {pend : Nat → Prop} {g : Gh} {w : World} {tmps : Array Value} {vm ss ss' : List Nat} {s : St} (h : FrSt S pend g w tmps vm ss s) (hnd : NdOk vm) {dst : Option Nat} {D : Dst} (hd : chkDst vm ss dst D = some ss')
    (hfit : ∀ d, dst = some d → d < tmps.size) {v : Value} {a : AV} (c : Bool) (hv : SR S w g s.ob v a) : FrSt S pend g w (putT tmps dst v) vm ss' (putD s c a D) := by
  cases dst with
  | none =>
    cases D <;> simp [chkDst] at hd
    subst hd
    exact ⟨h.home, h.vl, h.sl, h.vs, h.st, h.fit⟩
  | some d =>
    have hdt := hfit d rfl
    have hv' := hv
    cases D with
    | no => simp [chkDst] at hd
    | push =>
      simp only [chkDst] at hd
      split at hd
      · cases hd
      rename_i hn
      simp only [Option.some.injEq] at hd
      subst hd
      have hn1 : d ∉ vm := fun c => hn (.inl c)
      have hn2 : d ∉ ss := fun c => hn (.inr c)
      refine ⟨h.home, h.vl, by simpa [putD] using h.sl, fun i hi => ?_, fun i hi => ?_, fun t ht => ?_⟩
      · have hne : d ≠ vm.getD i 0 := fun e => hn1 (by rw [e, List.getD_eq_getElem?_getD, List.getElem?_eq_getElem hi]; exact List.getElem_mem hi)
        simp only [putT, getD_setNe hne]
        exact h.vs i hi
      · cases i with
        | zero => simp only [putT, putD, List.getD_cons_zero, getD_setEq hdt]; exact hv'
        | succ i =>
          have hi' : i < ss.length := by simpa using hi
          have hne : d ≠ ss.getD i 0 := fun e => hn2 (by rw [e, List.getD_eq_getElem?_getD, List.getElem?_eq_getElem hi']; exact List.getElem_mem hi')
          simp only [putT, putD, List.getD_cons_succ, getD_setNe hne]
          exact h.st i hi'
      · simp only [putT, Array.size_setIfInBounds]
        rcases ht with ht | ht
        · exact h.fit t (.inl ht)
        · rcases List.mem_cons.1 ht with e | ht
          · exact e ▸ hdt
          · exact h.fit t (.inr ht)
    | slot n =>
      simp only [chkDst] at hd
      split at hd
      · rename_i hn
        simp only [Option.some.injEq] at hd
        subst hd
        obtain ⟨hn1, hn2, hsn⟩ := hn
        have hnl : n < ss.length := by
          rcases Nat.lt_or_ge n ss.length with h' | h'
          · exact h'
          · rw [List.getElem?_eq_none h'] at hn1; cases hn1
        have hvn : ss.getD n 0 = d := by rw [List.getD_eq_getElem?_getD, hn1]; rfl
        refine ⟨h.home, h.vl, by simpa [putD] using h.sl, fun i hi => ?_, fun i hi => ?_, fun t ht => ?_⟩
        · have hne : d ≠ vm.getD i 0 := fun e => hn2 (by rw [e, List.getD_eq_getElem?_getD, List.getElem?_eq_getElem hi]; exact List.getElem_mem hi)
          simp only [putT, getD_setNe hne]
          exact h.vs i hi
        · by_cases hin : n = i
          · subst hin
            have : (s.st.set n a).getD n .any = a := by
              rw [List.getD_eq_getElem?_getD, List.getElem?_set_self (by rw [h.sl]; exact hnl)]; rfl
            simp only [putT, putD, hvn, getD_setEq hdt, this]
            exact hv'
          · have hne : d ≠ ss.getD i 0 := by
              intro e
              have h1 : ss[n]? = ss[i]? := by rw [hn1, e, List.getD_eq_getElem?_getD, List.getElem?_eq_getElem hi]; rfl
              exact hin ((List.getElem?_inj hnl hsn).1 h1)
            have : (s.st.set n a).getD i .any = s.st.getD i .any := by
              rw [List.getD_eq_getElem?_getD, List.getElem?_set_ne hin, List.getD_eq_getElem?_getD]
            simp only [putT, putD, getD_setNe hne, this]
            exact h.st i hi
        · simp only [putT, Array.size_setIfInBounds]; exact h.fit t ht
      · cases hd
    | var n =>
      simp only [chkDst] at hd
      split at hd
      · rename_i hn
        simp only [Option.some.injEq] at hd
        subst hd
        obtain ⟨hn1, hn2, hn3⟩ := hn
        have hnl : n < vm.length := by
          rcases Nat.lt_or_ge n vm.length with h' | h'
          · exact h'
          · rw [List.getElem?_eq_none h'] at hn1; cases hn1
        have hvn : vm.getD n 0 = d := by rw [List.getD_eq_getElem?_getD, hn1]; rfl
        refine ⟨h.home, by simpa [putD] using h.vl, h.sl, fun i hi => ?_, fun i hi => ?_, fun t ht => ?_⟩
        · by_cases hin : n = i
          · subst hin
            have : (s.vs.set n a).getD n .any = a := by
              rw [List.getD_eq_getElem?_getD, List.getElem?_set_self (by rw [h.vl]; exact hnl)]; rfl
            simp only [putT, putD, hvn, getD_setEq hdt, this]
            exact hv'
          · have hne : d ≠ vm.getD i 0 := eraseIdx_ne hn1 hn3 hi hin
            have : (s.vs.set n a).getD i .any = s.vs.getD i .any := by
              rw [List.getD_eq_getElem?_getD, List.getElem?_set_ne hin, List.getD_eq_getElem?_getD]
            simp only [putT, putD, getD_setNe hne, this]
            exact h.vs i hi
        · have hne : d ≠ ss.getD i 0 := fun e => hn2 (by rw [e, List.getD_eq_getElem?_getD, List.getElem?_eq_getElem hi]; exact List.getElem_mem hi)
          simp only [putT, getD_setNe hne]
          exact h.st i hi
        · simp only [putT, Array.size_setIfInBounds]; exact h.fit t ht
      · cases hd

section
variable {S : Nat → Prop} {pend : Nat → Prop} {F Iow : Nat → Prop} {w0 : World} {g0 : Gh} {o0 : Obs} {g : Gh} {w w' : World} {tmps : Array Value} {ds : List Deferred} {vm ss ss' : List Nat} {s : St} {P : Program} {o : Oper} {key : Nat}

/-- The ghost behind a call. -/
def backGh (g gb : Gh) (κ : Nat → Nat) (key : Nat) (r : AV) : Gh :=
  ⟨fun k => if k / 32 = key ∧ fposB r (k % 32) = true then gb.β (κ (k % 32)) else g.β k, fun k => if k / 32 = key ∧ fposB r (k % 32) = true then gb.cap (κ (k % 32)) else g.cap k⟩

theorem keyOf_div {d j : Nat} (hj : j < 32) : (keyOf d + j) / 32 = d ∧ (keyOf d + j) % 32 = j := by unfold keyOf; omega

/-- A result reads as what has been taken up. -/
theorem RV.adopt {S' : Nat → Prop} {gb : Gh} {obb ob : Obs} {κ : Nat → Nat} {v : Value} {r : AV} (hv : RV S' w gb obb κ v r) (hS : ∀ b, S b → S' b) (hok : (adopt key r).ok = true) :
    SR S w (backGh g gb κ key r) (addAll ob (Go.Proofs.YtbobhejdijcofaaGreatDoor.adopt key r).hs) v (Go.Proofs.YtbobhejdijcofaaGreatDoor.adopt key r).v := by
  have sub : ∀ {u a}, VR S' w u a → VR S w u a := fun h => h.mono (Same.refl _ _) fun b _ c => hS b c
  have own1 : ∀ {i : Nat} {u : Value} {sz : Nat} {els : List AV}, i < 32 → fposB r i = true → partOf r i = .fresh sz els → RV1 S' w gb obb (κ i) u (.fresh sz els) →
      SR1 S w (backGh g gb κ key r) (addAll ob (Go.Proofs.YtbobhejdijcofaaGreatDoor.adopt key r).hs) u (.own (keyOf key + i)) := by
    intro i u sz els hi hf hp hu
    obtain ⟨h1, h2⟩ := keyOf_div (d := key) hi
    refine ⟨⟨sz, els⟩, by rw [adopt_get hok, h1, h2, if_pos ⟨rfl, hf⟩, hp]; rfl, ?_⟩
    simp only [backGh, h1, h2, hf, and_self, if_true]
    exact hu.2
  have mem1 : ∀ {i : Nat} {u : Value} {sz : Nat} {els : List AV} {ix : Nat}, i < 32 → fposB r i = true → partOf r i = .mem sz els ix → RV1 S' w gb obb (κ i) u (.mem sz els ix) →
      SR1 S w (backGh g gb κ key r) (addAll ob (Go.Proofs.YtbobhejdijcofaaGreatDoor.adopt key r).hs) u (.ref (keyOf key + i) 0 0) := by
    intro i u sz els ix hi hf hp hu
    obtain ⟨h1, h2⟩ := keyOf_div (d := key) hi
    refine ⟨⟨sz, els⟩, by rw [adopt_get hok, h1, h2, if_pos ⟨rfl, hf⟩, hp]; rfl, ?_⟩
    simp only [backGh, h1, h2, hf, and_self, if_true]
    obtain ⟨_, hl, e⟩ := hu
    exact ⟨by simp only [hl]; omega, by rw [e, Nat.zero_mul]⟩
  cases r
  case fresh sz els => exact own1 (i := 0) (by omega) (by simp [fposB, isFr]) rfl hv
  case mem sz els ix => exact mem1 (i := 0) (by omega) (by simp [fposB, isFr]) rfl hv
  case tup cs =>
    obtain ⟨vs, rfl, hn, hall⟩ := hv
    have hlen : cs.length < 31 := by simpa [Go.Proofs.YtbobhejdijcofaaGreatDoor.adopt] using hok
    refine ⟨vs, rfl, by rw [adoptL_len, hn], fun j hj => ?_⟩
    rw [adoptL_len] at hj
    rw [adoptL_get key cs 1 j hj]
    have hj1 := hall j hj
    have hfp : isFr (cs.getD j .any) = true → fposB (.tup cs) (j + 1) = true := fun h => by
      simp only [fposB, Nat.add_sub_cancel, h, Bool.and_true, Bool.and_eq_true, decide_eq_true_eq]; omega
    have hpart : partOf (.tup cs) (j + 1) = cs.getD j .any := by simp [partOf]
    split
    · rename_i sz els he
      rw [he] at hj1 hpart hfp
      rw [Nat.add_comm 1 j]
      exact own1 (i := j + 1) (by omega) (hfp rfl) hpart hj1
    · rename_i sz els ix he
      rw [he] at hj1 hpart hfp
      rw [Nat.add_comm 1 j]
      exact mem1 (i := j + 1) (by omega) (hfp rfl) hpart hj1
    · rename_i hne hne2
      have : VR S' w (vs.getD j undef) (cs.getD j .any) := by
        revert hj1 hne hne2
        generalize cs.getD j .any = x
        intro hj1 hne hne2
        cases x <;> first | exact hj1 | exact absurd rfl (hne _ _) | exact absurd rfl (hne2 _ _ _)
      exact (sub this).toSR1
  case fn f a b => exact (sub hv).toSR
  case own => simp [Go.Proofs.YtbobhejdijcofaaGreatDoor.adopt, bad] at hok
  case ref => simp [Go.Proofs.YtbobhejdijcofaaGreatDoor.adopt, bad] at hok
  case opt => simp [Go.Proofs.YtbobhejdijcofaaGreatDoor.adopt, bad] at hok
  all_goals exact (sub hv).toSR

theorem clear_none' {d k : Nat} (hk : k / 32 = d) : ¬ inOb (clear s d).ob k := by
  intro ⟨hm, hg⟩
  unfold Go.Proofs.YtbobhejdijcofaaGreatDoor.clear at hg
  rw [cond_eq_if] at hg
  split at hg
  · simp [obGet_clrOb, hk] at hg
  · rename_i hn
    exact hasKey_false (by simpa using hn) hg hk

/-- The result is taken up, and the value goes to its place. -/
theorem FrSt.adopt (h : FrSt S (fun _ => False) g w tmps vm ss s) (hnd : NdOk vm) {dst : Option Nat} {D : Dst} (hd : chkDst vm ss dst D = some ss') (hfit : ∀ d, dst = some d → d < tmps.size) {c : Bool}
    {S' : Nat → Prop} {gb : Gh} {obb : Obs} {κ : Nat → Nat} {v : Value} {r : AV} (hv : RV S' w gb obb κ v r) (hS : ∀ b, S b → S' b)
    (hH : ∀ i, fpos r i → ∀ sz els, fmHm (partOf r i) = some ⟨sz, els⟩ → Home S w (gb.β (κ i)) (gb.cap (κ i)) sz els) (hok : (putM s key D (also c (adopt key r))).ok = true) :
    FrSt S (fun _ => False) (backGh g gb κ key r) w (putT tmps dst v) vm ss' (putM s key D (also c (Go.Proofs.YtbobhejdijcofaaGreatDoor.adopt key r))) ∧ s.ok = true ∧ c = true ∧
    (∀ k h', obGet k (putM s key D (also c (Go.Proofs.YtbobhejdijcofaaGreatDoor.adopt key r))).ob = some h' → (k / 32 = key ∧ fposB r (k % 32) = true) ∨ (¬ (k / 32 = key ∧ fposB r (k % 32) = true) ∧ obGet k s.ob = some h')) := by
  have hoks : s.ok = true ∧ c = true ∧ (Go.Proofs.YtbobhejdijcofaaGreatDoor.adopt key r).ok = true := by
    revert hok
    unfold putM also
    cases (Go.Proofs.YtbobhejdijcofaaGreatDoor.adopt key r).hs with
    | nil => simp only [putH]; intro hok; cases D <;> simpa [putD] using hok
    | cons p q =>
      simp only [putH, withOb]
      have : (Go.Proofs.YtbobhejdijcofaaGreatDoor.clear s key).ok = s.ok := by unfold Go.Proofs.YtbobhejdijcofaaGreatDoor.clear; rw [cond_eq_if]; split <;> rfl
      intro hok; cases D <;> simpa [putD, this] using hok
  obtain ⟨h1, h2, h3⟩ := hoks
  -- the state before the value goes to its place
  have mid : ∃ s1 : St, putM s key D (also c (Go.Proofs.YtbobhejdijcofaaGreatDoor.adopt key r)) = putD { s1 with ob := addAll s1.ob (Go.Proofs.YtbobhejdijcofaaGreatDoor.adopt key r).hs } (c && (Go.Proofs.YtbobhejdijcofaaGreatDoor.adopt key r).ok) (Go.Proofs.YtbobhejdijcofaaGreatDoor.adopt key r).v D ∧ FrSt S (fun _ => False) g w tmps vm ss s1 ∧
      (∀ k h', obGet k s1.ob = some h' → obGet k s.ob = some h') ∧ (∀ k, k / 32 = key → fposB r (k % 32) = true → ¬ inOb s1.ob k) := by
    unfold putM also
    cases hhs : (Go.Proofs.YtbobhejdijcofaaGreatDoor.adopt key r).hs with
    | nil =>
      refine ⟨s, rfl, h, fun k h' hg => hg, fun k hk hf => ?_⟩
      exfalso
      have := adopt_get h3 k []
      rw [hhs, if_pos ⟨hk, hf⟩] at this
      simp only [addAll, obGet] at this
      have hfr : isFr (partOf r (k % 32)) = true := by
        revert hf
        cases r <;> simp [fposB, partOf] <;> (try (intro _ h; exact h)) <;> (try (intro _ _ h; exact h))
      revert this hfr
      generalize partOf r (k % 32) = x
      intro this hfr
      cases x <;> simp [isFr, fmHm] at hfr this
    | cons p q => exact ⟨Go.Proofs.YtbobhejdijcofaaGreatDoor.clear s key, rfl, h.clear key, fun k h' hg => clear_get hg, fun k hk _ => clear_none' hk⟩
  obtain ⟨s1, e1, hs1, hsub, hnone⟩ := mid
  have hget := adopt_get (d := key) h3
  have hkey : ∀ k, KeyOk g (backGh g gb κ key r) s1.ob (addAll s1.ob (Go.Proofs.YtbobhejdijcofaaGreatDoor.adopt key r).hs) k := by
    intro k h' hg
    have hn : ¬ (k / 32 = key ∧ fposB r (k % 32) = true) := fun e => hnone k e.1 e.2 ⟨h', hg⟩
    exact ⟨h', by rw [hget, if_neg hn]; exact hg, rfl, rfl, by simp [backGh, hn], by simp [backGh, hn]⟩
  have hs2 : FrSt S (fun _ => False) (backGh g gb κ key r) w tmps vm ss { s1 with ob := addAll s1.ob (Go.Proofs.YtbobhejdijcofaaGreatDoor.adopt key r).hs } := by
    refine ⟨fun k h' _ hg => ?_, hs1.vl, hs1.sl, fun i hi => (hs1.vs i hi).mono (Same.refl _ _) (fun _ _ c => c) fun k _ => hkey k, fun i hi => (hs1.st i hi).mono (Same.refl _ _) (fun _ _ c => c) fun k _ => hkey k, hs1.fit⟩
    simp only [hget] at hg
    by_cases e : k / 32 = key ∧ fposB r (k % 32) = true
    · rw [if_pos e] at hg
      simp only [backGh, if_pos e]
      exact hH _ (fposB_iff.1 e.2) h'.sz h'.els hg
    · rw [if_neg e] at hg
      simp only [backGh, if_neg e]
      exact hs1.home k h' (fun c => c) hg
  have hval : SR S w (backGh g gb κ key r) (addAll s1.ob (Go.Proofs.YtbobhejdijcofaaGreatDoor.adopt key r).hs) v (Go.Proofs.YtbobhejdijcofaaGreatDoor.adopt key r).v := hv.adopt hS h3
  refine ⟨?_, h1, h2, fun k h' hg => ?_⟩
  · rw [e1]
    have := FS_put (S := S) hs2 hnd hd hfit (c && (Go.Proofs.YtbobhejdijcofaaGreatDoor.adopt key r).ok) hval
    exact this
  · rw [e1] at hg
    have hob : (putD { s1 with ob := addAll s1.ob (Go.Proofs.YtbobhejdijcofaaGreatDoor.adopt key r).hs } (c && (Go.Proofs.YtbobhejdijcofaaGreatDoor.adopt key r).ok) (Go.Proofs.YtbobhejdijcofaaGreatDoor.adopt key r).v D).ob = addAll s1.ob (Go.Proofs.YtbobhejdijcofaaGreatDoor.adopt key r).hs := by cases D <;> rfl
    rw [hob, hget] at hg
    by_cases e : k / 32 = key ∧ fposB r (k % 32) = true
    · exact .inl e
    · rw [if_neg e] at hg; exact .inr ⟨e, hsub k h' hg⟩

end

end Go.Proofs.YtbobhejdijcofaaGreatDoor
