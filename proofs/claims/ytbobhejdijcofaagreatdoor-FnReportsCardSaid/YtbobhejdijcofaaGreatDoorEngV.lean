/- The text of a function: its statements, its branches, its loops. No condition. -/
import Derived.Test.YtbobhejdijcofaaGreatDoorEngUC
namespace Go.Proofs.YtbobhejdijcofaaGreatDoor
open Go Go.RowKit
set_option linter.unusedSimpArgs false
set_option linter.unusedVariables false

/-- The code and its small form are one. -/
def chk (P : Program) (n : Nat) (vm : List Nat) : Code → IR → Bool
  | .skip, .skip => true
  | .label _, .skip => true
  | .region _ ops false, .region false is => (chkList P n ops vm [] ops.toList is).isSome
  | .seq (.region _ ops false) (.cond c a b), .test false is c' a' b' => (match chkList P n ops vm [] ops.toList is with
    | some ss => chkSrc vm ss c c'
    | none => false) && (chk P n vm a a' && chk P n vm b b')
  | .region _ ops true, .anyo k is alts .skip => chkAny P n ops vm (ssOf vm ops) k is alts
  | .seq (.region _ ops true) (.cond c a b), .anyo k is alts (.cond c' a' b') => chkAny P n ops vm (ssOf vm ops) k is alts && (chkSrc vm (ssOf vm ops) c c' && (chk P n vm a a' && chk P n vm b b'))
  | .seq a b, .seq a' b' => chk P n vm a a' && chk P n vm b b'
  | .cond c a b, .cond c' a' b' => chkSrc vm [] c c' && (chk P n vm a a' && chk P n vm b b')
  | .block i a, .block j a' => i == j && chk P n vm a a'
  | .loop a, .loop keep out rt a' => keep.length == vm.length && (out.length == vm.length && (rt.length == vm.length && chk P n vm a a'))
  | .exit i, .exit j => i == j
  | .ret, .ret => true
  | c, .mask m a' => m.length == vm.length && chk P n vm c a'
  | _, _ => false

def toExit : Ex → Exit
  | .norm => .normal
  | .exit id => .exit id
  | .ret => .ret

/-! ### What has failed stays failed -/

theorem canon_ok {s : St} : (canon s).ok = s.ok := by
  unfold canon; cases s.ob <;> rfl

theorem keepS_ok {m : List Bool} {s : St} : (keepS m s).ok = s.ok := by
  unfold keepS; rw [canon_ok]; rfl

theorem maskN_okm {m : List Bool} {r : Res} (h : (maskN m r).2.ok = true) : r.2.ok = true := by
  obtain ⟨e, s⟩ := r
  cases e
  · simpa only [maskN, keepS_ok] using h
  · exact h
  · exact h

theorem iter_okm {f : St → Res} {keep ot rt : List Bool} (hf : ∀ s, (f s).2.ok = true → s.ok = true) : ∀ n s, (iter f keep ot rt n s).2.ok = true → s.ok = true
  | 0, s, h => by simp [iter, fail] at h
  | n + 1, s, h => by
    simp only [iter] at h
    have ih := iter_okm (keep := keep) (ot := ot) (rt := rt) hf n
    revert h
    have h2 := hf s
    generalize f s = r at h2
    intro h
    obtain ⟨e, s'⟩ := r
    cases e
    · simp only [maskX, thenR] at h; have h3 := ih _ h; rw [keepS_ok] at h3; exact h2 h3
    · simp only [maskX, thenR, keepS_ok] at h; exact h2 h
    · simp only [maskX, thenR, keepS_ok] at h; exact h2 h

theorem anyS_ok {T : Tbl} {k : Nat} {is : List Ins} {alts : List (List Nat)} {s : St} (h : (anyS T k is alts s).ok = true) : (doList T is (slots k s)).ok = true ∧ altsOk T is (slots k s) (doList T is (slots k s)) alts = true := by
  simpa [anyS, andOk] using h

theorem exec_okm {T : Tbl} {L : Nat} : ∀ (ir : IR) {s : St}, (exec T L ir s).2.ok = true → s.ok = true
  | .skip, _, h => h
  | .region _ is, s, h => doList_ok is (s := s) h
  | .test _ is c a b, s, h => by
    simp only [exec, testR] at h
    refine doList_ok (T := T) is (s := s) ?_
    cases hv : rd (doList T is s) c <;> rw [hv] at h <;> simp only [condR, fail] at h <;> (try (cases h; done))
    split at h
    · have h3 := exec_okm a h; exact h3
    · have h3 := exec_okm b h; exact h3
  | .anyo k is alts .skip, s, h => by
    simp only [exec] at h
    have h3 := doList_ok (T := T) is (s := slots k s) (anyS_ok (s := s) h).1
    exact h3
  | .anyo k is alts (.cond c a b), s, h => by
    simp only [exec, testR] at h
    have h2 : (anyS T k is alts s).ok = true := by
      cases hv : rd (anyS T k is alts s) c <;> rw [hv] at h <;> simp only [condR, fail] at h <;> (try (cases h; done))
      split at h
      · have h3 := exec_okm a h; exact h3
      · have h3 := exec_okm b h; exact h3
    have h3 := doList_ok (T := T) is (s := slots k s) (anyS_ok h2).1
    exact h3
  | .anyo k is alts (.region _ _), s, h => by simp [exec, fail] at h
  | .anyo k is alts (.test _ _ _ _ _), s, h => by simp [exec, fail] at h
  | .anyo k is alts (.anyo _ _ _ _), s, h => by simp [exec, fail] at h
  | .anyo k is alts (.seq _ _), s, h => by simp [exec, fail] at h
  | .anyo k is alts (.block _ _), s, h => by simp [exec, fail] at h
  | .anyo k is alts (.loop _ _ _ _), s, h => by simp [exec, fail] at h
  | .anyo k is alts (.mask _ _), s, h => by simp [exec, fail] at h
  | .anyo k is alts (.exit _), s, h => by simp [exec, fail] at h
  | .anyo k is alts .ret, s, h => by simp [exec, fail] at h
  | .seq a b, s, h => by
    simp only [exec] at h
    have ha := @exec_okm T L a s
    revert h ha
    generalize exec T L a s = r
    intro h ha
    obtain ⟨e, s'⟩ := r
    cases e
    · have h3 := exec_okm b h; exact ha h3
    · exact ha h
    · exact ha h
  | .cond c a b, s, h => by
    simp only [exec] at h
    cases hv : rd s c <;> rw [hv] at h <;> simp only [condR, fail] at h <;> (try (cases h; done))
    split at h
    · have h3 := exec_okm a h; exact h3
    · have h3 := exec_okm b h; exact h3
  | .block id a, s, h => by
    simp only [exec] at h
    have ha := @exec_okm T L a s
    revert h ha
    generalize exec T L a s = r
    intro h ha
    obtain ⟨e, s'⟩ := r
    cases e
    · exact ha h
    · refine ha ?_
      simp only [inBlk] at h
      rw [cond_eq_if] at h
      split at h <;> exact h
    · exact ha h
  | .loop keep out rt a, s, h => by
    simp only [exec] at h
    have := iter_okm (f := exec T L a) (keep := keep) (fun s h => exec_okm a h) L (keepS keep s) h
    rwa [keepS_ok] at this
  | .mask m a, s, h => by
    simp only [exec] at h
    exact exec_okm a (maskN_okm h)
  | .exit _, _, h => h
  | .ret, _, h => h

/-! ### Masks -/

theorem keepTm_len : ∀ (m : List Bool) (tm : List AV), m.length = tm.length → (keepTm m tm).length = tm.length
  | [], [], _ => rfl
  | [], _ :: _, h => by simp at h
  | _ :: _, [], h => by simp at h
  | b :: m, a :: tm, h => by cases b <;> simp [keepTm, keepTm_len m tm (by simpa using h)]

theorem keepTm_get : ∀ (m : List Bool) (tm : List AV) (i : Nat), (keepTm m tm).getD i .any = .any ∨ (keepTm m tm).getD i .any = tm.getD i .any
  | [], _, i => .inl (by simp [keepTm])
  | _ :: _, [], i => .inl (by simp [keepTm])
  | b :: m, a :: tm, 0 => by cases b <;> simp [keepTm]
  | b :: m, a :: tm, i + 1 => by
    have := keepTm_get m tm i
    cases b <;> simpa [keepTm] using this

theorem keepOb_get (tm : List AV) (k : Nat) : ∀ ob : Obs, obGet k (keepOb tm ob) = if tm.any (fun a => a.names k) = true then obGet k ob else none
  | [] => by simp [keepOb, obGet]
  | p :: r => by
    have ih := keepOb_get tm k r
    simp only [keepOb, cond_eq_if]
    by_cases h : tm.any (fun a => a.names p.1) = true
    · rw [if_pos h]
      simp only [obGet, cond_eq_if, beq_iff_eq]
      by_cases e : p.1 = k
      · subst e; simp [h]
      · simp only [if_neg e, ih]
    · rw [if_neg h, ih]
      simp only [obGet, cond_eq_if, beq_iff_eq]
      by_cases e : p.1 = k
      · subst e; simp [h]
      · simp only [if_neg e]

theorem least_ex {p : Nat → Prop} : ∀ m, p m → ∃ m, p m ∧ ∀ k, p k → m ≤ k := by
  intro m
  induction m using Nat.strongRecOn with
  | _ m ih =>
    intro h
    by_cases hx : ∃ k, k < m ∧ p k
    · obtain ⟨k, hk, hp⟩ := hx
      exact ih k hk hp
    · refine ⟨m, h, fun k hp => ?_⟩
      rcases Nat.lt_or_ge k m with hlt | hge
      · exact absurd ⟨k, hlt, hp⟩ hx
      · exact hge

noncomputable def leastOf (p : Nat → Prop) : Nat := Classical.epsilon fun m => p m ∧ ∀ k, p k → m ≤ k

theorem leastOf_spec {p : Nat → Prop} (h : ∃ m, p m) : p (leastOf p) ∧ ∀ k, p k → leastOf p ≤ k := by
  obtain ⟨m, hm⟩ := h
  exact Classical.epsilon_spec (least_ex m hm)

section
variable {F Iow : Nat → Prop} {w0 : World} {g0 : Gh} {o0 : Obs} {g : Gh} {w w' : World} {tmps : Array Value} {ds : List Deferred} {vm ss ss' : List Nat} {s : St} {P : Program} {T : Tbl}
  {Q : Exit → Act → World → Prop} {ops : Array Oper} {n : Nat}

theorem FX.drop (h : FX F Iow w0 g0 o0 g w tmps vm ss s) : FX F Iow w0 g0 o0 g w tmps vm [] (drop s) :=
  ⟨⟨h.home, h.inj, h.nF, h.fb, h.vl, rfl, h.vs, fun i hi => by simp at hi, fun t ht => h.fit t (by rcases ht with ht | ht; exact .inl ht; simp at ht), h.tab⟩, h.same, h.hio, h.fio, h.par⟩

theorem FX.keepB (h : FX F Iow w0 g0 o0 g w tmps vm [] s) {m : List Bool} (hm : m.length = vm.length) : FX F Iow w0 g0 o0 g w tmps vm [] (keepB m s) := by
  have hget : ∀ k hm', obGet k (Go.Proofs.YtbobhejdijcofaaGreatDoor.keepB m s).ob = some hm' → obGet k s.ob = some hm' := by
    intro k hm' hg
    simp only [Go.Proofs.YtbobhejdijcofaaGreatDoor.keepB, keepOb_get] at hg
    split at hg
    · exact hg
    · cases hg
  have hin : ∀ k, inOb (Go.Proofs.YtbobhejdijcofaaGreatDoor.keepB m s).ob k → inOb s.ob k := fun k ⟨hm', hg⟩ => ⟨hm', hget k hm' hg⟩
  have hlen : m.length = s.vs.length := by rw [hm, h.vl]
  refine ⟨⟨fun k hm' hg => (h.home k hm' (hget k hm' hg)).mono (Same.refl _ _) (fun _ => rfl) fun b _ c => SetOf_sub hin c, fun k k' a b => h.inj k k' ⟨hin k a.1, a.2⟩ ⟨hin k' b.1, b.2⟩, fun k a => h.nF k ⟨hin k a.1, a.2⟩, h.fb,
    by simp [Go.Proofs.YtbobhejdijcofaaGreatDoor.keepB, keepTm_len m s.vs hlen, h.vl], rfl, fun i hi => ?_, fun i hi => by simp at hi, h.fit, h.tab.mono (Same.refl _ _) fun b _ c => SetOf_sub hin c⟩, h.same, fun k hk => h.hio k ⟨hin k hk.1, hk.2⟩, h.fio, h.par.sub hget⟩
  rcases keepTm_get m s.vs i with e | e
  · simp only [Go.Proofs.YtbobhejdijcofaaGreatDoor.keepB]; rw [e]; exact SR.any
  · have hmem : (keepTm m s.vs).getD i .any ∈ keepTm m s.vs := by
      have : i < (keepTm m s.vs).length := by rw [keepTm_len m s.vs hlen, h.vl]; exact hi
      rw [List.getD_eq_getElem?_getD, List.getElem?_eq_getElem this]; exact List.getElem_mem this
    have h1 := h.vs i hi
    simp only [Go.Proofs.YtbobhejdijcofaaGreatDoor.keepB]
    rw [← e] at h1
    refine h1.mono (Same.refl _ _) (fun b _ c => SetOf_sub hin c) fun k hk hm' hg => ⟨hm', ?_, rfl, rfl, rfl, rfl⟩
    rw [keepOb_get, if_pos (List.any_eq_true.2 ⟨_, hmem, mem_keys_names.2 hk⟩)]
    exact hg

/-! ### New keys -/

theorem ddp_mem {k : Nat} : ∀ (l seen : List Nat), k ∈ ddp seen l ↔ k ∈ l ∧ k ∉ seen
  | [], seen => by simp [ddp]
  | x :: r, seen => by
    simp only [ddp, cond_eq_if]
    by_cases h : (seen.any fun y => y == x) = true
    · rw [if_pos h, ddp_mem r seen]
      have hx : x ∈ seen := by simpa using h
      simp only [List.mem_cons]
      constructor
      · rintro ⟨a, b⟩; exact ⟨.inr a, b⟩
      · rintro ⟨a | a, b⟩
        · subst a; exact absurd hx b
        · exact ⟨a, b⟩
    · rw [if_neg h]
      have hx : x ∉ seen := by simpa using h
      simp only [List.mem_cons, ddp_mem r (x :: seen), not_or]
      constructor
      · rintro (a | ⟨a, b, c⟩)
        · subst a; exact ⟨.inl rfl, hx⟩
        · exact ⟨.inr a, c⟩
      · rintro ⟨a | a, b⟩
        · exact .inl a
        · by_cases e : k = x
          · exact .inl e
          · exact .inr ⟨a, e, b⟩

theorem canKey_mod (j x : Nat) : canKey j x % 32 = 31 ↔ x % 32 = 31 := by
  unfold canKey
  rw [cond_eq_if]
  split
  · rfl
  · rename_i h; simp only [beq_iff_eq] at h; omega

theorem rho_mod : ∀ (ks : List Nat) (j k : Nat), rho ks j k % 32 = 31 ↔ k % 32 = 31
  | [], _, _ => Iff.rfl
  | x :: r, j, k => by
    simp only [rho, cond_eq_if, beq_iff_eq]
    split
    · rename_i e; subst e; exact canKey_mod j k
    · exact rho_mod r (j + 1) k

theorem rho_par : ∀ (ks : List Nat) (j k : Nat), k % 32 = 31 → rho ks j k = k
  | [], _, _, _ => rfl
  | x :: r, j, k, h => by
    simp only [rho, cond_eq_if, beq_iff_eq]
    split
    · rename_i e; subst e; unfold canKey; rw [cond_eq_if, if_pos (by simpa using h)]
    · exact rho_par r (j + 1) k h

theorem rho_at : ∀ (ks : List Nat) (j k : Nat), k ∈ ks → k % 32 ≠ 31 → ∃ i, j ≤ i ∧ rho ks j k = 32 * (100000 + i) ∧ ∃ h : i - j < ks.length, ks[i - j]'h = k
  | [], _, _, h, _ => by simp at h
  | x :: r, j, k, h, hm => by
    simp only [rho, cond_eq_if, beq_iff_eq]
    by_cases e : k = x
    · subst e
      rw [if_pos rfl]
      refine ⟨j, Nat.le_refl _, ?_, by simp, by simp⟩
      unfold canKey; rw [cond_eq_if, if_neg (by simpa using hm)]
    · rw [if_neg e]
      rcases List.mem_cons.1 h with h' | h'
      · exact absurd h' e
      · obtain ⟨i, h1, h2, h3, h4⟩ := rho_at r (j + 1) k h' hm
        refine ⟨i, by omega, h2, ?_, ?_⟩
        · simp only [List.length_cons]; omega
        · have : i - j = (i - (j + 1)) + 1 := by omega
          simp only [this, List.getElem_cons_succ, h4]

theorem rho_inj {ks : List Nat} {k k' : Nat} (h : k ∈ ks) (h' : k' ∈ ks) (e : rho ks 0 k = rho ks 0 k') : k = k' := by
  by_cases hm : k % 32 = 31
  · have hm' : k' % 32 = 31 := by rw [← rho_mod ks 0 k', ← e, rho_mod]; exact hm
    rwa [rho_par _ _ _ hm, rho_par _ _ _ hm'] at e
  · have hm' : k' % 32 ≠ 31 := fun c => hm (by rw [← rho_mod ks 0 k, e, rho_mod]; exact c)
    obtain ⟨i, _, a1, a2, a3⟩ := rho_at ks 0 k h hm
    obtain ⟨i', _, b1, b2, b3⟩ := rho_at ks 0 k' h' hm'
    have : i = i' := by omega
    subst this
    exact a3.symm.trans b3

theorem reOb_get {π : Nat → Nat} {ob : Obs} : ∀ (ks : List Nat), (∀ k k', k ∈ ks → k' ∈ ks → π k = π k' → k = k') → ∀ j h, obGet j (reOb π ob ks) = some h → ∃ k, k ∈ ks ∧ j = π k ∧ obGet k ob = some h
  | [], _, j, h, e => by simp [reOb, obGet] at e
  | k :: r, hi, j, h, e => by
    have ih := reOb_get (ob := ob) r (fun a b ha hb => hi a b (by simp [ha]) (by simp [hb])) j h
    simp only [reOb] at e
    cases ho : obGet k ob with
    | none =>
      rw [ho] at e
      obtain ⟨a, h1, h2, h3⟩ := ih e
      exact ⟨a, by simp [h1], h2, h3⟩
    | some hm =>
      rw [ho] at e
      simp only [reOne, obGet_obSet] at e
      split at e
      · rename_i e1
        cases e
        exact ⟨k, by simp, e1.symm, ho⟩
      · obtain ⟨a, h1, h2, h3⟩ := ih e
        exact ⟨a, by simp [h1], h2, h3⟩

theorem reOb_has {π : Nat → Nat} {ob : Obs} : ∀ (ks : List Nat), (∀ k k', k ∈ ks → k' ∈ ks → π k = π k' → k = k') → ∀ k h, k ∈ ks → obGet k ob = some h → obGet (π k) (reOb π ob ks) = some h
  | [], _, k, h, hk, _ => by simp at hk
  | x :: r, hi, k, h, hk, ho => by
    have ih := reOb_has (ob := ob) r (fun a b ha hb => hi a b (by simp [ha]) (by simp [hb])) k h
    simp only [reOb]
    by_cases e : k = x
    · subst e
      rw [ho]
      simp [reOne, obGet_obSet]
    · have hk' : k ∈ r := by
        rcases List.mem_cons.1 hk with c | c
        · exact absurd c e
        · exact c
      cases hx : obGet x ob with
      | none => exact ih hk' ho
      | some hm =>
        simp only [reOne, obGet_obSet]
        rw [if_neg fun c => e (hi k x (by simp [hk']) (by simp) c.symm)]
        exact ih hk' ho

theorem SR1.re {S S' : Nat → Prop} {w : World} {g g' : Gh} {ob ob' : Obs} {π : Nat → Nat} (hS : ∀ b, S' b → S b) {v : Value} {a : AV}
    (hk : ∀ k, k ∈ a.key1 → ∀ h, obGet k ob = some h → obGet (π k) ob' = some h ∧ g'.β (π k) = g.β k ∧ g'.cap (π k) = g.cap k) (h : SR1 S w g ob v a) : SR1 S' w g' ob' v (a.re1 π) := by
  cases a
  case own k =>
    obtain ⟨hm, ho, hv⟩ := h
    obtain ⟨e1, e2, e3⟩ := hk k (by simp [AV.key1]) hm ho
    exact ⟨hm, e1, by rw [e2, e3]; exact hv⟩
  case ref k i off =>
    obtain ⟨hm, ho, hi, rfl⟩ := h
    obtain ⟨e1, e2, _⟩ := hk k (by simp [AV.key1]) hm ho
    exact ⟨hm, e1, hi, by rw [e2]⟩
  all_goals exact VR.mono (Same.refl _ _) (fun b _ c => hS b c) h

theorem getD_map_re1 (π : Nat → Nat) (l : List AV) (i : Nat) : (l.map (AV.re1 π)).getD i .any = AV.re1 π (l.getD i .any) := getD_map_any _ rfl l i

theorem SR.re {S S' : Nat → Prop} {w : World} {g g' : Gh} {ob ob' : Obs} {π : Nat → Nat} (hS : ∀ b, S' b → S b) {v : Value} {a : AV}
    (hk : ∀ k, k ∈ a.keys → ∀ h, obGet k ob = some h → obGet (π k) ob' = some h ∧ g'.β (π k) = g.β k ∧ g'.cap (π k) = g.cap k) (h : SR S w g ob v a) : SR S' w g' ob' v (a.re π) := by
  cases a
  case fn f a1 a2 =>
    obtain ⟨v1, v2, rfl, n1, n2, h1, h2⟩ := h
    refine ⟨v1, v2, rfl, by simp [n1], by simp [n2], fun j hj => ?_, fun j hj => ?_⟩
    · rw [getD_map_re1]
      refine (h1 j (by simpa using hj)).re hS fun k hkk => hk k ?_
      simp only [AV.keys, List.flatMap_append, List.mem_append]; exact .inl (mem_flatMap_getD (by simpa using hj) hkk)
    · rw [getD_map_re1]
      refine (h2 j (by simpa using hj)).re hS fun k hkk => hk k ?_
      simp only [AV.keys, List.flatMap_append, List.mem_append]; exact .inr (mem_flatMap_getD (by simpa using hj) hkk)
  case tup as =>
    obtain ⟨vs, rfl, n, h1⟩ := h
    refine ⟨vs, rfl, by simp [n], fun j hj => ?_⟩
    rw [getD_map_re1]
    exact (h1 j (by simpa using hj)).re hS fun k hkk => hk k (mem_flatMap_getD (by simpa using hj) hkk)
  case opt b a =>
    simp only [SR, AV.re] at h ⊢
    split at h
    · rename_i hb; rw [if_pos hb]; exact h.re hS hk
    · rename_i hb; rw [if_neg hb]; exact h
  case own k => exact SR1.re (w := w) (a := .own k) hS (fun k' hk' => hk k' (by simpa [AV.keys, AV.key1] using hk')) h
  case ref k i off => exact SR1.re (w := w) (a := .ref k i off) hS (fun k' hk' => hk k' (by simpa [AV.keys, AV.key1] using hk')) h
  all_goals exact VR.mono (Same.refl _ _) (fun b _ c => hS b c) h

theorem FX.canonK (h : FX F Iow w0 g0 o0 g w tmps vm [] s) {ks : List Nat} (hks : ∀ k, inOb s.ob k → k ∈ ks) : ∃ g', FX F Iow w0 g0 o0 g' w tmps vm [] (canonK s ks) := by
  have hinj := @rho_inj ks
  let π := rho ks 0
  let σ : Nat → Nat := fun j => Classical.epsilon fun k => k ∈ ks ∧ π k = j
  have hσ : ∀ k, k ∈ ks → σ (π k) = k := by
    intro k hk
    have := Classical.epsilon_spec (p := fun k' => k' ∈ ks ∧ π k' = π k) ⟨k, hk, rfl⟩
    exact hinj this.1 hk this.2
  have hget : ∀ j hm, obGet j (Go.Proofs.YtbobhejdijcofaaGreatDoor.canonK s ks).ob = some hm → ∃ k, k ∈ ks ∧ j = π k ∧ obGet k s.ob = some hm := fun j hm hg => reOb_get ks (fun _ _ => hinj) j hm hg
  have hhas : ∀ k hm, obGet k s.ob = some hm → obGet (π k) (Go.Proofs.YtbobhejdijcofaaGreatDoor.canonK s ks).ob = some hm := fun k hm hg => reOb_has ks (fun _ _ => hinj) k hm (hks k ⟨hm, hg⟩) hg
  let g' : Gh := ⟨fun j => g.β (σ j), fun j => g.cap (σ j)⟩
  have hliv : ∀ j, liv g' (Go.Proofs.YtbobhejdijcofaaGreatDoor.canonK s ks).ob j → liv g s.ob (σ j) ∧ j = π (σ j) := by
    rintro j ⟨⟨hm, hg⟩, hc⟩
    obtain ⟨k, hk, rfl, ho⟩ := hget j hm hg
    refine ⟨⟨⟨hm, ?_⟩, hc⟩, ?_⟩
    · rw [hσ k hk]; exact ho
    · rw [hσ k hk]
  have hS : ∀ b, SetOf F g' (Go.Proofs.YtbobhejdijcofaaGreatDoor.canonK s ks).ob b → SetOf F g s.ob b := by
    rintro b (hb | ⟨j, hj, e⟩)
    · exact .inl hb
    · exact .inr ⟨σ j, (hliv j hj).1, e⟩
  refine ⟨g', ⟨fun j hm hg => ?_, fun j j' a b e => ?_, fun j a => h.nF (σ j) (hliv j a).1, h.fb, by simpa [Go.Proofs.YtbobhejdijcofaaGreatDoor.canonK] using h.vl, rfl, fun i hi => ?_, fun i hi => by simp at hi, h.fit, h.tab.mono (Same.refl _ _) fun b _ c => hS b c⟩, h.same, fun j hj => h.hio (σ j) (hliv j hj).1, h.fio, fun j hm hj hg => ?_⟩
  · obtain ⟨k, hk, rfl, ho⟩ := hget j hm hg
    have := h.home k hm ho
    have e1 : g'.β (π k) = g.β k := by simp only [g']; rw [hσ k hk]
    have e2 : g'.cap (π k) = g.cap k := by simp only [g']; rw [hσ k hk]
    rw [e1, e2]
    exact this.mono (Same.refl _ _) (fun _ => rfl) fun b _ c => hS b c
  · obtain ⟨a1, a2⟩ := hliv j a
    obtain ⟨b1, b2⟩ := hliv j' b
    have := h.inj (σ j) (σ j') a1 b1 e
    rw [a2, b2, this]
  · have h1 := h.vs i hi
    simp only [Go.Proofs.YtbobhejdijcofaaGreatDoor.canonK]
    rw [getD_map_any _ rfl]
    refine h1.re hS fun k hk hm ho => ⟨hhas k hm ho, ?_, ?_⟩
    · simp only [g']; rw [hσ k (hks k ⟨hm, ho⟩)]
    · simp only [g']; rw [hσ k (hks k ⟨hm, ho⟩)]
  · obtain ⟨k, hk, rfl, ho⟩ := hget j hm hg
    have hkm : k % 32 = 31 := (rho_mod ks 0 k).1 hj
    have e0 : π k = k := rho_par ks 0 k hkm
    obtain ⟨h0, p1, p2, p3, p4⟩ := h.par k hm hkm ho
    refine ⟨h0, by rw [e0]; exact p1, p2, p3, fun e => ?_⟩
    have e1 : g'.β (π k) = g.β k := by simp only [g']; rw [hσ k hk]
    have e2 : g'.cap (π k) = g.cap k := by simp only [g']; rw [hσ k hk]
    rw [e1, e2, e0]
    exact p4 e

theorem FX.keepS (h : FX F Iow w0 g0 o0 g w tmps vm [] s) {m : List Bool} (hm : m.length = vm.length) : ∃ g', FX F Iow w0 g0 o0 g' w tmps vm [] (keepS m s) := by
  have h1 := h.keepB hm
  unfold Go.Proofs.YtbobhejdijcofaaGreatDoor.keepS canon
  cases ho : (Go.Proofs.YtbobhejdijcofaaGreatDoor.keepB m s).ob with
  | nil => exact ⟨g, h1⟩
  | cons p r =>
    refine h1.canonK fun k hk => ?_
    rw [ddp_mem]
    refine ⟨?_, by simp⟩
    obtain ⟨hm', hg⟩ := hk
    simp only [Go.Proofs.YtbobhejdijcofaaGreatDoor.keepB, keepOb_get] at hg
    split at hg
    · rename_i hn
      obtain ⟨a, ha, hb⟩ := List.any_eq_true.1 hn
      exact List.mem_flatMap.2 ⟨a, ha, mem_keys_names.1 hb⟩
    · cases hg

theorem cond_val (h : FR F g w tmps vm ss s) {c : Operand} {c' : Src} (hc : chkSrc vm ss c c' = true) {b : Bool} (hb : rd s c' = .bool b) : ({ tmps := tmps, defers := ds } : Act).eval c = .bool b := by
  have := h.src (ds := ds) hc
  rw [hb] at this
  exact sr_bool this

/-- A loop: each round brings its frame to the next one. -/
theorem loop_step {L : Nat} {c : Code} {f : St → Res} {keep out rt : List Bool} (hk : keep.length = vm.length) (ho : out.length = vm.length) (hrt : rt.length = vm.length)
    (body : ∀ {Q : Exit → Act → World → Prop} {s : St} {g : Gh} {w : World} {tmps : Array Value}, FX F Iow w0 g0 o0 g w tmps vm [] s → tmps.size = n → (f s).2.ok = true →
      (∀ tmps' w' g', tmps'.size = n → FX F Iow w0 g0 o0 g' w' tmps' vm [] (f s).2 → Q (toExit (f s).1) ⟨tmps', ds⟩ w') → c.wp P Q ⟨tmps, ds⟩ w)
    (hf : ∀ s, (f s).2.ok = true → s.ok = true)
    (h : FX F Iow w0 g0 o0 g w tmps vm [] s) (hn : tmps.size = n) (hok : (iter f keep out rt L (keepS keep s)).2.ok = true)
    (hK : ∀ tmps' w' g', tmps'.size = n → FX F Iow w0 g0 o0 g' w' tmps' vm [] (iter f keep out rt L (keepS keep s)).2 → Q (toExit (iter f keep out rt L (keepS keep s)).1) ⟨tmps', ds⟩ w') : (Code.loop c).wp P Q ⟨tmps, ds⟩ w := by
  generalize hr : iter f keep out rt L (keepS keep s) = r at hok hK
  let J : Nat → Act → World → Prop := fun m a w => ∃ tmps s g, a = ⟨tmps, ds⟩ ∧ tmps.size = n ∧ FX F Iow w0 g0 o0 g w tmps vm [] s ∧ iter f keep out rt m s = r
  obtain ⟨g1, h1⟩ := h.keepS hk
  refine wp_loop (fun a w => ∃ m, J m a w) (fun a w => leastOf fun m => J m a w) ⟨L, tmps, _, g1, rfl, hn, h1, hr⟩ fun a w hI => ?_
  have hfind := (leastOf_spec hI).1
  revert hfind
  generalize leastOf (fun m => J m a w) = m
  rintro ⟨tmps, s, g, rfl, hn, hfx, hit⟩
  cases m with
  | zero => rw [← hit] at hok; simp [iter, fail] at hok
  | succ m =>
    simp only [iter] at hit
    have hfok : (f s).2.ok = true := by
      rw [← hit] at hok
      revert hok
      generalize f s = q
      intro hok
      obtain ⟨e, s'⟩ := q
      cases e
      · simp only [maskX, thenR] at hok; have h3 := iter_okm hf m _ hok; rwa [keepS_ok] at h3
      · simpa only [maskX, thenR, keepS_ok] using hok
      · simpa only [maskX, thenR, keepS_ok] using hok
    refine body hfx hn hfok fun tmps' w' g' hn' hfx' => ?_
    revert hit hfx'
    generalize f s = q
    intro hit hfx'
    obtain ⟨e, s'⟩ := q
    cases e
    · simp only [maskX, thenR] at hit
      simp only [toExit, Exit.then]
      obtain ⟨g2, h2⟩ := FX.keepS hfx' hk
      have hJ : J m ⟨tmps', ds⟩ w' := ⟨tmps', _, g2, rfl, hn', h2, hit⟩
      exact ⟨⟨m, hJ⟩, Nat.lt_succ_of_le ((leastOf_spec ⟨m, hJ⟩).2 m hJ)⟩
    · simp only [maskX, thenR] at hit
      subst hit
      obtain ⟨g2, h2⟩ := FX.keepS hfx' ho
      exact hK _ _ _ hn' h2
    · simp only [maskX, thenR] at hit
      subst hit
      obtain ⟨g2, h2⟩ := FX.keepS hfx' hrt
      exact hK _ _ _ hn' h2

theorem exec_ok {L : Nat} (hT : TSound P T) (hnd : NdOk vm) : ∀ (c : Code) (ir : IR) {Q : Exit → Act → World → Prop} {s : St} {g : Gh} {w : World} {tmps : Array Value}, chk P n vm c ir = true → FX F Iow w0 g0 o0 g w tmps vm [] s → tmps.size = n → (exec T L ir s).2.ok = true →
    (∀ tmps' w' g', tmps'.size = n → FX F Iow w0 g0 o0 g' w' tmps' vm [] (exec T L ir s).2 → Q (toExit (exec T L ir s).1) ⟨tmps', ds⟩ w') → c.wp P Q ⟨tmps, ds⟩ w
  | c, ir, Q, s, g, w, tmps, hc, h, hn, hok, hK => by
    unfold chk at hc
    split at hc
    · exact wp_skip (hK _ _ _ hn h)
    · exact wp_label (hK _ _ _ hn h)
    · rename_i id ops is
      obtain ⟨ss', hs⟩ := Option.isSome_iff_exists.1 hc
      simp only [exec] at hok hK
      exact wp_region_list (list_step hT hnd ops.toList is h hn hs hok fun tmps' w' g' hn' hfx => hK _ _ _ hn' hfx.drop)
    · rename_i id ops c a b is c' a' b'
      simp only [Bool.and_eq_true] at hc
      obtain ⟨hc1, hc2, hc3⟩ := hc
      split at hc1
      · rename_i ss' hs
        simp only [exec, testR] at hok hK
        have hlok : (doList T is s).ok = true := by
          cases hv : rd (doList T is s) c' <;> rw [hv] at hok <;> simp only [condR, fail] at hok <;> (try (cases hok; done))
          split at hok
          · have h3 := exec_okm a' hok; exact h3
          · have h3 := exec_okm b' hok; exact h3
        refine wp_seq (wp_region_list (list_step hT hnd ops.toList is h hn hs hlok fun tmps' w' g' hn' hfx => ?_))
        simp only [Exit.then]
        cases hv : rd (doList T is s) c' <;> rw [hv] at hok hK <;> simp only [condR, fail] at hok hK <;> (try (cases hok; done))
        rename_i bv
        refine wp_cond (cond_val hfx.toFR hc1 hv) ?_
        cases bv
        · simp only [Bool.false_eq_true, if_false] at hok hK ⊢
          exact exec_ok hT hnd b b' hc3 hfx.drop hn' hok hK
        · simp only [if_true] at hok hK ⊢
          exact exec_ok hT hnd a a' hc2 hfx.drop hn' hok hK
      · cases hc1
    · rename_i id ops k is alts
      simp only [exec] at hok hK
      exact any_ok hT hnd hc h hn hok fun tmps' w' g' hn' hfx => hK _ _ _ hn' hfx.drop
    · rename_i id ops c a b k is alts c' a' b'
      simp only [Bool.and_eq_true] at hc
      obtain ⟨hc1, hc2, hc3, hc4⟩ := hc
      simp only [exec, testR] at hok hK
      have hlok : (anyS T k is alts s).ok = true := by
        cases hv : rd (anyS T k is alts s) c' <;> rw [hv] at hok <;> simp only [condR, fail] at hok <;> (try (cases hok; done))
        split at hok
        · have h3 := exec_okm a' hok; exact h3
        · have h3 := exec_okm b' hok; exact h3
      refine wp_seq (any_ok hT hnd hc1 h hn hlok fun tmps' w' g' hn' hfx => ?_)
      simp only [Exit.then]
      cases hv : rd (anyS T k is alts s) c' <;> rw [hv] at hok hK <;> simp only [condR, fail] at hok hK <;> (try (cases hok; done))
      rename_i bv
      refine wp_cond (cond_val hfx.toFR hc2 hv) ?_
      cases bv
      · simp only [Bool.false_eq_true, if_false] at hok hK ⊢
        exact exec_ok hT hnd b b' hc4 hfx.drop hn' hok hK
      · simp only [if_true] at hok hK ⊢
        exact exec_ok hT hnd a a' hc3 hfx.drop hn' hok hK
    · rename_i a b a' b'
      simp only [Bool.and_eq_true] at hc
      simp only [exec] at hok hK
      have hfst : (exec T L a' s).2.ok = true := by
        revert hok
        generalize exec T L a' s = r
        intro hok
        obtain ⟨e, s'⟩ := r
        cases e
        · have h3 := exec_okm b' hok; exact h3
        · exact hok
        · exact hok
      refine wp_seq (exec_ok hT hnd a a' hc.1 h hn hfst fun tmps' w' g' hn' hfx => ?_)
      revert hok hK hfx
      generalize exec T L a' s = r
      intro hok hK hfx
      obtain ⟨e, s'⟩ := r
      cases e
      · exact exec_ok hT hnd b b' hc.2 hfx hn' hok hK
      · exact hK _ _ _ hn' hfx
      · exact hK _ _ _ hn' hfx
    · rename_i c a b c' a' b'
      simp only [Bool.and_eq_true] at hc
      obtain ⟨hc1, hc2, hc3⟩ := hc
      simp only [exec] at hok hK
      cases hv : rd s c' <;> rw [hv] at hok hK <;> simp only [condR, fail] at hok hK <;> (try (cases hok; done))
      rename_i bv
      refine wp_cond (cond_val h.toFR hc1 hv) ?_
      cases bv
      · simp only [Bool.false_eq_true, if_false] at hok hK ⊢
        exact exec_ok hT hnd b b' hc3 h hn hok hK
      · simp only [if_true] at hok hK ⊢
        exact exec_ok hT hnd a a' hc2 h hn hok hK
    · rename_i i a j a'
      simp only [Bool.and_eq_true, beq_iff_eq] at hc
      obtain ⟨rfl, hc⟩ := hc
      simp only [exec] at hok hK
      have hfst : (exec T L a' s).2.ok = true := by
        revert hok
        generalize exec T L a' s = r
        intro hok
        obtain ⟨e, s'⟩ := r
        cases e
        · exact hok
        · simp only [inBlk] at hok
          rw [cond_eq_if] at hok
          split at hok <;> exact hok
        · exact hok
      refine wp_block (exec_ok hT hnd a a' hc h hn hfst fun tmps' w' g' hn' hfx => ?_)
      revert hok hK hfx
      generalize exec T L a' s = r
      intro hok hK hfx
      obtain ⟨e, s'⟩ := r
      cases e
      · exact hK _ _ _ hn' hfx
      · rename_i k
        simp only [toExit, Exit.inBlock]
        simp only [inBlk, cond_eq_if, beq_iff_eq] at hK
        by_cases e : k = i
        · rw [if_pos e]
          rw [if_pos e] at hK
          exact hK _ _ _ hn' hfx
        · rw [if_neg e]
          rw [if_neg e] at hK
          exact hK _ _ _ hn' hfx
      · exact hK _ _ _ hn' hfx
    · rename_i a keep out rt a'
      simp only [Bool.and_eq_true, beq_iff_eq] at hc
      obtain ⟨hk, ho, hrt, hc⟩ := hc
      simp only [exec] at hok hK
      exact loop_step hk ho hrt (fun {Q s g w tmps} hfx hn' hok' hK' => exec_ok hT hnd a a' hc hfx hn' hok' hK') (fun s hs => exec_okm a' hs) h hn hok hK
    · rename_i i j
      simp only [beq_iff_eq] at hc
      subst hc
      exact wp_exit (hK _ _ _ hn h)
    · exact wp_ret (hK _ _ _ hn h)
    · rename_i m a'
      simp only [Bool.and_eq_true, beq_iff_eq] at hc
      obtain ⟨hm, hc⟩ := hc
      simp only [exec] at hok hK
      refine exec_ok hT hnd _ a' hc h hn (maskN_okm hok) fun tmps' w' g' hn' hfx => ?_
      revert hok hK hfx
      generalize exec T L a' s = r
      intro hok hK hfx
      obtain ⟨e, s'⟩ := r
      cases e
      · obtain ⟨g2, h2⟩ := FX.keepS hfx hm
        exact hK _ _ _ hn' h2
      · exact hK _ _ _ hn' hfx
      · exact hK _ _ _ hn' hfx
    · cases hc

end
end Go.Proofs.YtbobhejdijcofaaGreatDoor
