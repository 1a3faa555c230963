/- The text of a function: its statements, its branches, its loops. No condition. -/
import Derived.Test.YtkapngmboghaeaaEngU
namespace Go.Proofs.Ytkapngmboghaeaa
open Go Go.RowKit
set_option linter.unusedSimpArgs false
set_option linter.unusedVariables false

/-- The code and its small form are one. -/
def chk (P : Program) (n : Nat) (vm : List Nat) : Code → IR → Bool
  | .skip, .skip => true
  | .label _, .skip => true
  | .region _ ops false, .region false is => (chkList P n ops vm [] ops.toList is).isSome
  | .seq (.region _ ops false) (.cond c a b), .test false is c' a' b' => (match chkList P n ops vm [] ops.toList is with
    | some ss => chkSrc vm ss c c'
    | none => false) && (chk P n vm a a' && chk P n vm b b')
  | .seq a b, .seq a' b' => chk P n vm a a' && chk P n vm b b'
  | .cond c a b, .cond c' a' b' => chkSrc vm [] c c' && (chk P n vm a a' && chk P n vm b b')
  | .block i a, .block j a' => i == j && chk P n vm a a'
  | .loop a, .loop keep out a' => keep.length == vm.length && (out.length == vm.length && chk P n vm a a')
  | .exit i, .exit j => i == j
  | .ret, .ret => true
  | _, _ => false

def toExit : Ex → Exit
  | .norm => .normal
  | .exit id => .exit id
  | .ret => .ret

/-! ### What has failed stays failed -/

theorem keepS_ok {m : List Bool} {s : St} : (keepS m s).ok = s.ok := rfl

theorem iter_okm {f : St → Res} {keep : List Bool} (hf : ∀ s, (f s).2.ok = true → s.ok = true) : ∀ n s, (iter f keep n s).2.ok = true → s.ok = true
  | 0, s, h => by simp [iter, fail] at h
  | n + 1, s, h => by
    simp only [iter] at h
    have ih := iter_okm (keep := keep) hf n
    revert h
    have h2 := hf s
    generalize f s = r at h2
    intro h
    obtain ⟨e, s'⟩ := r
    cases e
    · simp only [maskR, thenR] at h; have h3 := ih _ h; exact h2 h3
    · exact h2 h
    · exact h2 h

theorem exec_okm {T : Tbl} {L : Nat} : ∀ (ir : IR) {s : St}, (exec T L ir s).2.ok = true → s.ok = true
  | .skip, _, h => h
  | .region _ is, s, h => doList_ok is (s := s) h
  | .test _ is c a b, s, h => by
    simp only [exec, testR] at h
    refine doList_ok (T := T) is (s := s) ?_
    cases hv : rd (doList T is s) c <;> rw [hv] at h <;> simp only [condR, fail] at h <;> (try (cases h; done))
    split at h
    · have h3 := exec_okm a h; exact h3
    · have h3 := exec_okm b h; exact h3
  | .seq a b, s, h => by
    simp only [exec] at h
    have ha := @exec_okm T L a s
    revert h ha
    generalize exec T L a s = r
    intro h ha
    obtain ⟨e, s'⟩ := r
    cases e
    · have h3 := exec_okm b h; exact ha h3
    · exact ha h
    · exact ha h
  | .cond c a b, s, h => by
    simp only [exec] at h
    cases hv : rd s c <;> rw [hv] at h <;> simp only [condR, fail] at h <;> (try (cases h; done))
    split at h
    · have h3 := exec_okm a h; exact h3
    · have h3 := exec_okm b h; exact h3
  | .block id a, s, h => by
    simp only [exec] at h
    have ha := @exec_okm T L a s
    revert h ha
    generalize exec T L a s = r
    intro h ha
    obtain ⟨e, s'⟩ := r
    cases e
    · exact ha h
    · refine ha ?_
      simp only [inBlk] at h
      rw [cond_eq_if] at h
      split at h <;> exact h
    · exact ha h
  | .loop keep out a, s, h => by
    simp only [exec, maskR] at h
    have := iter_okm (f := exec T L a) (keep := keep) (fun s h => exec_okm a h) L (keepS keep s) h
    exact this
  | .exit _, _, h => h
  | .ret, _, h => h

/-! ### Masks -/

theorem keepTm_len : ∀ (m : List Bool) (tm : List AV), m.length = tm.length → (keepTm m tm).length = tm.length
  | [], [], _ => rfl
  | [], _ :: _, h => by simp at h
  | _ :: _, [], h => by simp at h
  | b :: m, a :: tm, h => by cases b <;> simp [keepTm, keepTm_len m tm (by simpa using h)]

theorem keepTm_get : ∀ (m : List Bool) (tm : List AV) (i : Nat), (keepTm m tm).getD i .any = .any ∨ (keepTm m tm).getD i .any = tm.getD i .any
  | [], _, i => .inl (by simp [keepTm])
  | _ :: _, [], i => .inl (by simp [keepTm])
  | b :: m, a :: tm, 0 => by cases b <;> simp [keepTm]
  | b :: m, a :: tm, i + 1 => by
    have := keepTm_get m tm i
    cases b <;> simpa [keepTm] using this

theorem keepOb_get (tm : List AV) (k : Nat) : ∀ ob : Obs, obGet k (keepOb tm ob) = if tm.any (fun a => a.names k) = true then obGet k ob else none
  | [] => by simp [keepOb, obGet]
  | p :: r => by
    have ih := keepOb_get tm k r
    simp only [keepOb, cond_eq_if]
    by_cases h : tm.any (fun a => a.names p.1) = true
    · rw [if_pos h]
      simp only [obGet, cond_eq_if, beq_iff_eq]
      by_cases e : p.1 = k
      · subst e; simp [h]
      · simp only [if_neg e, ih]
    · rw [if_neg h, ih]
      simp only [obGet, cond_eq_if, beq_iff_eq]
      by_cases e : p.1 = k
      · subst e; simp [h]
      · simp only [if_neg e]

theorem least_ex {p : Nat → Prop} : ∀ m, p m → ∃ m, p m ∧ ∀ k, p k → m ≤ k := by
  intro m
  induction m using Nat.strongRecOn with
  | _ m ih =>
    intro h
    by_cases hx : ∃ k, k < m ∧ p k
    · obtain ⟨k, hk, hp⟩ := hx
      exact ih k hk hp
    · refine ⟨m, h, fun k hp => ?_⟩
      rcases Nat.lt_or_ge k m with hlt | hge
      · exact absurd ⟨k, hlt, hp⟩ hx
      · exact hge

noncomputable def leastOf (p : Nat → Prop) : Nat := Classical.epsilon fun m => p m ∧ ∀ k, p k → m ≤ k

theorem leastOf_spec {p : Nat → Prop} (h : ∃ m, p m) : p (leastOf p) ∧ ∀ k, p k → leastOf p ≤ k := by
  obtain ⟨m, hm⟩ := h
  exact Classical.epsilon_spec (least_ex m hm)

section
variable {F IO : Nat → Prop} {w0 : World} {g0 : Gh} {o0 : Obs} {g : Gh} {w w' : World} {tmps : Array Value} {ds : List Deferred} {vm ss ss' : List Nat} {s : St} {P : Program} {T : Tbl}
  {Q : Exit → Act → World → Prop} {ops : Array Oper} {n : Nat}

theorem FX.drop (h : FX F IO w0 g0 o0 g w tmps vm ss s) : FX F IO w0 g0 o0 g w tmps vm [] (drop s) :=
  ⟨⟨h.home, h.inj, h.nF, h.fb, h.vl, rfl, h.vs, fun i hi => by simp at hi, fun t ht => h.fit t (by rcases ht with ht | ht; exact .inl ht; simp at ht)⟩, h.same, h.hio, h.fio, h.par⟩

theorem FX.keepS (h : FX F IO w0 g0 o0 g w tmps vm [] s) {m : List Bool} (hm : m.length = vm.length) : FX F IO w0 g0 o0 g w tmps vm [] (keepS m s) := by
  have hget : ∀ k hm', obGet k (Go.Proofs.Ytkapngmboghaeaa.keepS m s).ob = some hm' → obGet k s.ob = some hm' := by
    intro k hm' hg
    simp only [Go.Proofs.Ytkapngmboghaeaa.keepS, keepOb_get] at hg
    split at hg
    · exact hg
    · cases hg
  have hin : ∀ k, inOb (Go.Proofs.Ytkapngmboghaeaa.keepS m s).ob k → inOb s.ob k := fun k ⟨hm', hg⟩ => ⟨hm', hget k hm' hg⟩
  have hlen : m.length = s.vs.length := by rw [hm, h.vl]
  refine ⟨⟨fun k hm' hg => (h.home k hm' (hget k hm' hg)).mono (Same.refl _ _) (fun _ => rfl) fun b _ c => SetOf_sub hin c, fun k k' a b => h.inj k k' ⟨hin k a.1, a.2⟩ ⟨hin k' b.1, b.2⟩, fun k a => h.nF k ⟨hin k a.1, a.2⟩, h.fb,
    by simp [Go.Proofs.Ytkapngmboghaeaa.keepS, keepTm_len m s.vs hlen, h.vl], rfl, fun i hi => ?_, fun i hi => by simp at hi, h.fit⟩, h.same, fun k hk => h.hio k ⟨hin k hk.1, hk.2⟩, h.fio, h.par.sub hget⟩
  rcases keepTm_get m s.vs i with e | e
  · simp only [Go.Proofs.Ytkapngmboghaeaa.keepS]; rw [e]; exact SR.any
  · have hmem : (keepTm m s.vs).getD i .any ∈ keepTm m s.vs := by
      have : i < (keepTm m s.vs).length := by rw [keepTm_len m s.vs hlen, h.vl]; exact hi
      rw [List.getD_eq_getElem?_getD, List.getElem?_eq_getElem this]; exact List.getElem_mem this
    have h1 := h.vs i hi
    simp only [Go.Proofs.Ytkapngmboghaeaa.keepS]
    rw [← e] at h1
    refine h1.mono (Same.refl _ _) (fun b _ c => SetOf_sub hin c) fun k hk hm' hg => ⟨hm', ?_, rfl, rfl, rfl, rfl⟩
    rw [keepOb_get, if_pos (List.any_eq_true.2 ⟨_, hmem, mem_keys_names.2 hk⟩)]
    exact hg

theorem cond_val (h : FR F g w tmps vm ss s) {c : Operand} {c' : Src} (hc : chkSrc vm ss c c' = true) {b : Bool} (hb : rd s c' = .bool b) : ({ tmps := tmps, defers := ds } : Act).eval c = .bool b := by
  have := h.src (ds := ds) hc
  rw [hb] at this
  exact sr_bool this

/-- A loop: each round brings its frame to the next one. -/
theorem loop_step {L : Nat} {c : Code} {f : St → Res} {keep out : List Bool} (hk : keep.length = vm.length) (ho : out.length = vm.length)
    (body : ∀ {Q : Exit → Act → World → Prop} {s : St} {g : Gh} {w : World} {tmps : Array Value}, FX F IO w0 g0 o0 g w tmps vm [] s → tmps.size = n → (f s).2.ok = true →
      (∀ tmps' w' g', tmps'.size = n → FX F IO w0 g0 o0 g' w' tmps' vm [] (f s).2 → Q (toExit (f s).1) ⟨tmps', ds⟩ w') → c.wp P Q ⟨tmps, ds⟩ w)
    (hf : ∀ s, (f s).2.ok = true → s.ok = true)
    (h : FX F IO w0 g0 o0 g w tmps vm [] s) (hn : tmps.size = n) (hok : (iter f keep L (keepS keep s)).2.ok = true)
    (hK : ∀ tmps' w' g', tmps'.size = n → FX F IO w0 g0 o0 g' w' tmps' vm [] (maskR out (iter f keep L (keepS keep s))).2 → Q (toExit (iter f keep L (keepS keep s)).1) ⟨tmps', ds⟩ w') : (Code.loop c).wp P Q ⟨tmps, ds⟩ w := by
  generalize hr : iter f keep L (keepS keep s) = r at hok hK
  let J : Nat → Act → World → Prop := fun m a w => ∃ tmps s g, a = ⟨tmps, ds⟩ ∧ tmps.size = n ∧ FX F IO w0 g0 o0 g w tmps vm [] s ∧ iter f keep m s = r
  refine wp_loop (fun a w => ∃ m, J m a w) (fun a w => leastOf fun m => J m a w) ⟨L, tmps, _, g, rfl, hn, h.keepS hk, hr⟩ fun a w hI => ?_
  have hfind := (leastOf_spec hI).1
  revert hfind
  generalize leastOf (fun m => J m a w) = m
  rintro ⟨tmps, s, g, rfl, hn, hfx, hit⟩
  cases m with
  | zero => rw [← hit] at hok; simp [iter, fail] at hok
  | succ m =>
    simp only [iter] at hit
    have hfok : (f s).2.ok = true := by
      rw [← hit] at hok
      revert hok
      generalize f s = q
      intro hok
      obtain ⟨e, s'⟩ := q
      cases e
      · simp only [maskR, thenR] at hok; have h3 := iter_okm hf m _ hok; exact h3
      · exact hok
      · exact hok
    refine body hfx hn hfok fun tmps' w' g' hn' hfx' => ?_
    revert hit hfx'
    generalize f s = q
    intro hit hfx'
    obtain ⟨e, s'⟩ := q
    cases e
    · simp only [maskR, thenR] at hit
      simp only [toExit, Exit.then]
      have hJ : J m ⟨tmps', ds⟩ w' := ⟨tmps', _, g', rfl, hn', FX.keepS hfx' hk, hit⟩
      exact ⟨⟨m, hJ⟩, Nat.lt_succ_of_le ((leastOf_spec ⟨m, hJ⟩).2 m hJ)⟩
    · simp only [maskR, thenR] at hit
      subst hit
      exact hK _ _ _ hn' (FX.keepS (FX.keepS hfx' hk) ho)
    · simp only [maskR, thenR] at hit
      subst hit
      exact hK _ _ _ hn' (FX.keepS (FX.keepS hfx' hk) ho)

theorem exec_ok {L : Nat} (hT : TSound P T) (hnd : vm.Nodup) : ∀ (c : Code) (ir : IR) {Q : Exit → Act → World → Prop} {s : St} {g : Gh} {w : World} {tmps : Array Value}, chk P n vm c ir = true → FX F IO w0 g0 o0 g w tmps vm [] s → tmps.size = n → (exec T L ir s).2.ok = true →
    (∀ tmps' w' g', tmps'.size = n → FX F IO w0 g0 o0 g' w' tmps' vm [] (exec T L ir s).2 → Q (toExit (exec T L ir s).1) ⟨tmps', ds⟩ w') → c.wp P Q ⟨tmps, ds⟩ w
  | c, ir, Q, s, g, w, tmps, hc, h, hn, hok, hK => by
    unfold chk at hc
    split at hc
    · exact wp_skip (hK _ _ _ hn h)
    · exact wp_label (hK _ _ _ hn h)
    · rename_i id ops is
      obtain ⟨ss', hs⟩ := Option.isSome_iff_exists.1 hc
      simp only [exec] at hok hK
      exact wp_region_list (list_step hT hnd ops.toList is h hn hs hok fun tmps' w' g' hn' hfx => hK _ _ _ hn' hfx.drop)
    · rename_i id ops c a b is c' a' b'
      simp only [Bool.and_eq_true] at hc
      obtain ⟨hc1, hc2, hc3⟩ := hc
      split at hc1
      · rename_i ss' hs
        simp only [exec, testR] at hok hK
        have hlok : (doList T is s).ok = true := by
          cases hv : rd (doList T is s) c' <;> rw [hv] at hok <;> simp only [condR, fail] at hok <;> (try (cases hok; done))
          split at hok
          · have h3 := exec_okm a' hok; exact h3
          · have h3 := exec_okm b' hok; exact h3
        refine wp_seq (wp_region_list (list_step hT hnd ops.toList is h hn hs hlok fun tmps' w' g' hn' hfx => ?_))
        simp only [Exit.then]
        cases hv : rd (doList T is s) c' <;> rw [hv] at hok hK <;> simp only [condR, fail] at hok hK <;> (try (cases hok; done))
        rename_i bv
        refine wp_cond (cond_val hfx.toFR hc1 hv) ?_
        cases bv
        · simp only [Bool.false_eq_true, if_false] at hok hK ⊢
          exact exec_ok hT hnd b b' hc3 hfx.drop hn' hok hK
        · simp only [if_true] at hok hK ⊢
          exact exec_ok hT hnd a a' hc2 hfx.drop hn' hok hK
      · cases hc1
    · rename_i a b a' b'
      simp only [Bool.and_eq_true] at hc
      simp only [exec] at hok hK
      have hfst : (exec T L a' s).2.ok = true := by
        revert hok
        generalize exec T L a' s = r
        intro hok
        obtain ⟨e, s'⟩ := r
        cases e
        · have h3 := exec_okm b' hok; exact h3
        · exact hok
        · exact hok
      refine wp_seq (exec_ok hT hnd a a' hc.1 h hn hfst fun tmps' w' g' hn' hfx => ?_)
      revert hok hK hfx
      generalize exec T L a' s = r
      intro hok hK hfx
      obtain ⟨e, s'⟩ := r
      cases e
      · exact exec_ok hT hnd b b' hc.2 hfx hn' hok hK
      · exact hK _ _ _ hn' hfx
      · exact hK _ _ _ hn' hfx
    · rename_i c a b c' a' b'
      simp only [Bool.and_eq_true] at hc
      obtain ⟨hc1, hc2, hc3⟩ := hc
      simp only [exec] at hok hK
      cases hv : rd s c' <;> rw [hv] at hok hK <;> simp only [condR, fail] at hok hK <;> (try (cases hok; done))
      rename_i bv
      refine wp_cond (cond_val h.toFR hc1 hv) ?_
      cases bv
      · simp only [Bool.false_eq_true, if_false] at hok hK ⊢
        exact exec_ok hT hnd b b' hc3 h hn hok hK
      · simp only [if_true] at hok hK ⊢
        exact exec_ok hT hnd a a' hc2 h hn hok hK
    · rename_i i a j a'
      simp only [Bool.and_eq_true, beq_iff_eq] at hc
      obtain ⟨rfl, hc⟩ := hc
      simp only [exec] at hok hK
      have hfst : (exec T L a' s).2.ok = true := by
        revert hok
        generalize exec T L a' s = r
        intro hok
        obtain ⟨e, s'⟩ := r
        cases e
        · exact hok
        · simp only [inBlk] at hok
          rw [cond_eq_if] at hok
          split at hok <;> exact hok
        · exact hok
      refine wp_block (exec_ok hT hnd a a' hc h hn hfst fun tmps' w' g' hn' hfx => ?_)
      revert hok hK hfx
      generalize exec T L a' s = r
      intro hok hK hfx
      obtain ⟨e, s'⟩ := r
      cases e
      · exact hK _ _ _ hn' hfx
      · rename_i k
        simp only [toExit, Exit.inBlock]
        simp only [inBlk, cond_eq_if, beq_iff_eq] at hK
        by_cases e : k = i
        · rw [if_pos e]
          rw [if_pos e] at hK
          exact hK _ _ _ hn' hfx
        · rw [if_neg e]
          rw [if_neg e] at hK
          exact hK _ _ _ hn' hfx
      · exact hK _ _ _ hn' hfx
    · rename_i a keep out a'
      simp only [Bool.and_eq_true, beq_iff_eq] at hc
      obtain ⟨hk, ho, hc⟩ := hc
      simp only [exec] at hok hK
      exact loop_step hk ho (fun {Q s g w tmps} hfx hn' hok' hK' => exec_ok hT hnd a a' hc hfx hn' hok' hK') (fun s hs => exec_okm a' hs) h hn hok hK
    · rename_i i j
      simp only [beq_iff_eq] at hc
      subst hc
      exact wp_exit (hK _ _ _ hn h)
    · exact wp_ret (hK _ _ _ hn h)
    · cases hc

end
end Go.Proofs.Ytkapngmboghaeaa
