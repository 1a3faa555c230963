/- The arguments of a call read as the callee is told. No condition. -/
import Derived.Test.YtgbopjgnggdhkaaEngN
namespace Go.Proofs.Ytgbopjgnggdhkaa
open Go Go.RowKit
set_option linter.unusedSimpArgs false
set_option linter.unusedVariables false

def kk (as : List AV) (j : Nat) : Nat := (as.getD j .any).key1.headD 0

/-- The ghost of the callee: where the blocks of its parameters lie. -/
def callGh (g : Gh) (as : List AV) : Gh := ⟨fun k => g.β (kk as (k / 32)), fun k => g.cap (kk as (k / 32))⟩

theorem paramKey_div (j : Nat) : paramKey j / 32 = j := by unfold paramKey; omega

theorem handArgs_get (ob : Obs) : ∀ (ms : List Md) (as : List AV) (j : Nat), ms.length = as.length → j < as.length → (handArgs ob ms as).getD j .any = handArg ob (ms.getD j .bor) (as.getD j .any)
  | [], [], _, _, h => by simp at h
  | [], _ :: _, _, h, _ => by simp at h
  | _ :: _, [], _, h, _ => by simp at h
  | m :: ms, a :: as, 0, _, _ => by simp [handArgs]
  | m :: ms, a :: as, j + 1, h, hj => by
    simp only [handArgs, List.getD_cons_succ]
    exact handArgs_get ob ms as j (by simpa using h) (by simpa using hj)

theorem handArgs_len (ob : Obs) : ∀ (ms : List Md) (as : List AV), ms.length = as.length → (handArgs ob ms as).length = as.length
  | [], [], _ => rfl
  | [], _ :: _, h => by simp at h
  | _ :: _, [], h => by simp at h
  | m :: ms, a :: as, h => by simp [handArgs, handArgs_len ob ms as (by simpa using h)]

theorem shapes_get : ∀ (ms : List Md) (as : List AV), shapes ms as = true → ms.length = as.length ∧ ∀ j, j < as.length →
    (ms.getD j .bor = .bor → isFM (as.getD j .any) = false) ∧ (ms.getD j .bor = .io → isFM (as.getD j .any) = true) ∧ (ms.getD j .bor = .mov → isFM (as.getD j .any) = true ∨ isNil (as.getD j .any) = true)
  | [], [], _ => ⟨rfl, fun j hj => by simp at hj⟩
  | [], _ :: _, h => by simp [shapes] at h
  | m :: _, [], h => by cases m <;> simp [shapes] at h
  | m :: ms, a :: as, h => by
    have key : shapes ms as = true ∧ ((m = .bor → isFM a = false) ∧ (m = .io → isFM a = true) ∧ (m = .mov → isFM a = true ∨ isNil a = true)) := by
      cases m <;> simp only [shapes, Bool.and_eq_true, Bool.or_eq_true, Bool.not_eq_true'] at h <;> refine ⟨h.2, ?_⟩ <;> simp [h.1]
    obtain ⟨h1, h2⟩ := key
    obtain ⟨i1, i2⟩ := shapes_get ms as h1
    refine ⟨by simp [i1], fun j hj => ?_⟩
    cases j with
    | zero => simpa using h2
    | succ j => simpa using i2 j (by simpa using hj)

theorem ioKeys_mem : ∀ (ms : List Md) (as : List AV) (j : Nat), ms.length = as.length → j < as.length → ms.getD j .bor ≠ .bor → ∀ k, k ∈ (as.getD j .any).key1 → k ∈ ioKeys ms as
  | [], [], _, _, h, _, _, _ => by simp at h
  | [], _ :: _, _, h, _, _, _, _ => by simp at h
  | _ :: _, [], _, h, _, _, _, _ => by simp at h
  | m :: ms, a :: as, 0, _, _, hm, k, hk => by
    cases m <;> simp at hm <;> simp only [ioKeys, List.mem_append] <;> exact .inl (by simpa using hk)
  | m :: ms, a :: as, j + 1, h, hj, hm, k, hk => by
    have := ioKeys_mem ms as j (by simpa using h) (by simpa using hj) (by simpa using hm) k (by simpa using hk)
    cases m <;> simp only [ioKeys, List.mem_append] <;> first | exact this | exact .inr this

theorem borKeys_mem : ∀ (ms : List Md) (as : List AV) (j : Nat), ms.length = as.length → j < as.length → ms.getD j .bor = .bor → ∀ k, k ∈ (as.getD j .any).keys → k ∈ borKeys ms as
  | [], [], _, _, h, _, _, _ => by simp at h
  | [], _ :: _, _, h, _, _, _, _ => by simp at h
  | _ :: _, [], _, h, _, _, _, _ => by simp at h
  | m :: ms, a :: as, 0, _, _, hm, k, hk => by
    cases m <;> simp at hm
    simp only [borKeys, List.mem_append]; exact .inl (by simpa using hk)
  | m :: ms, a :: as, j + 1, h, hj, hm, k, hk => by
    have := borKeys_mem ms as j (by simpa using h) (by simpa using hj) (by simpa using hm) k (by simpa using hk)
    cases m <;> simp only [borKeys, List.mem_append] <;> first | exact this | exact .inr this

theorem distinct_cons {k : Nat} {r : List Nat} (h : distinct (k :: r) = true) : k ∉ r ∧ distinct r = true := by
  simp only [distinct, Bool.and_eq_true, Bool.not_eq_true', List.any_eq_false, beq_iff_eq] at h
  exact ⟨fun hk => h.1 k hk rfl, h.2⟩

theorem distinct_app {l r : List Nat} (h : distinct (l ++ r) = true) : distinct r = true ∧ ∀ k, k ∈ l → k ∉ r := by
  induction l with
  | nil => exact ⟨h, fun k hk => by simp at hk⟩
  | cons a l ih =>
    obtain ⟨h1, h2⟩ := distinct_cons h
    obtain ⟨i1, i2⟩ := ih h2
    refine ⟨i1, fun k hk => ?_⟩
    rcases List.mem_cons.1 hk with e | hk
    · rw [e]; exact fun c => h1 (List.mem_append.2 (.inr c))
    · exact i2 k hk

theorem ioKeys_ne : ∀ (ms : List Md) (as : List AV) (i j : Nat), ms.length = as.length → distinct (ioKeys ms as) = true → i < j → j < as.length → ms.getD i .bor ≠ .bor → ms.getD j .bor ≠ .bor → ∀ k, k ∈ (as.getD i .any).key1 → k ∈ (as.getD j .any).key1 → False
  | [], [], _, _, _, _, _, h, _, _, _, _, _ => by simp at h
  | [], _ :: _, _, _, h, _, _, _, _, _, _, _, _ => by simp at h
  | _ :: _, [], _, _, h, _, _, _, _, _, _, _, _ => by simp at h
  | m :: ms, a :: as, 0, j + 1, hl, hd, _, hj, hi, hjm, k, h1, h2 => by
    have h3 := ioKeys_mem ms as j (by simpa using hl) (by simpa using hj) (by simpa using hjm) k (by simpa using h2)
    have hd' : distinct (a.key1 ++ ioKeys ms as) = true := by cases m <;> simp at hi <;> simpa [ioKeys] using hd
    exact (distinct_app hd').2 k (by simpa using h1) h3
  | m :: ms, a :: as, i + 1, j + 1, hl, hd, hij, hj, hi, hjm, k, h1, h2 => by
    have hd' : distinct (ioKeys ms as) = true := by
      cases m
      · simpa [ioKeys] using hd
      · exact (distinct_app (by simpa [ioKeys] using hd)).1
      · exact (distinct_app (by simpa [ioKeys] using hd)).1
    exact ioKeys_ne ms as i j (by simpa using hl) hd' (by omega) (by simpa using hj) (by simpa using hi) (by simpa using hjm) k (by simpa using h1) (by simpa using h2)
  | _ :: _, _ :: _, 0, 0, _, _, h, _, _, _, _, _, _ => by omega
  | _ :: _, _ :: _, _ + 1, 0, _, _, h, _, _, _, _, _, _ => by omega

theorem apart_ne {ks bs : List Nat} (h : apart ks bs = true) {k : Nat} (h1 : k ∈ ks) (h2 : k ∈ bs) : False := by
  simp only [apart, List.all_eq_true, Bool.not_eq_true', List.any_eq_false, beq_iff_eq] at h
  exact h k h1 k h2 rfl

/-- What is handed over to be written: its block. -/
theorem hand_fm {ob : Obs} {m : Md} {a : AV} {hm : Hm} (h : fmHm (handArg ob m a) = some hm) (hm0 : m = .bor → isFM (handArg ob m a) = false) :
    m ≠ .bor ∧ ∃ k, (a = .own k ∧ handArg ob m a = .fresh hm.sz hm.els ∨ a = .ref k 0 0 ∧ handArg ob m a = .mem hm.sz hm.els ∧ hm.els.length = 1) ∧ obGet k ob = some hm ∧ k ∈ a.key1 := by
  have hnb : m ≠ .bor := by
    intro e
    have h0 := hm0 e
    revert h h0
    generalize handArg ob m a = x
    intro h h0
    cases x <;> simp [fmHm, isFM] at h h0
  refine ⟨hnb, ?_⟩
  have hio : handArg ob m a = ioArg ob a := by cases m <;> first | exact absurd rfl hnb | rfl
  rw [hio] at h ⊢
  cases a
  case own k =>
    simp only [ioArg] at h ⊢
    cases ho : obGet k ob with
    | none => rw [ho] at h; simp [freshO, fmHm] at h
    | some h' =>
      rw [ho] at h
      simp only [freshO, fmHm, Option.some.injEq] at h
      exact ⟨k, .inl ⟨rfl, by simp [freshO, ← h]⟩, by rw [ho, ← h], by simp [AV.key1]⟩
  case ref k i off =>
    rcases Nat.eq_zero_or_pos i with hi | hi
    · rcases Nat.eq_zero_or_pos off with hof | hof
      · subst hi; subst hof
        simp only [ioArg] at h ⊢
        cases ho : obGet k ob with
        | none => rw [ho] at h; simp [memO, fmHm] at h
        | some h' =>
          rw [ho] at h
          obtain ⟨sz, els⟩ := h'
          match els, ho, h with
          | [], ho, h => simp [memO, fmHm] at h
          | [x], ho, h =>
            simp only [memO, fmHm, Option.some.injEq] at h
            subst h
            exact ⟨k, .inr ⟨rfl, by simp [memO], rfl⟩, ho, by simp [AV.key1]⟩
          | x :: y :: z, ho, h => simp [memO, fmHm] at h
      · obtain ⟨n, rfl⟩ : ∃ n, off = n + 1 := ⟨off - 1, by omega⟩
        simp [ioArg, fmHm] at h
    · obtain ⟨n, rfl⟩ : ∃ n, i = n + 1 := ⟨i - 1, by omega⟩
      simp [ioArg, fmHm] at h
  all_goals simp [ioArg, fmHm] at h

section
variable {F Iow : Nat → Prop} {w0 : World} {g0 : Gh} {o0 : Obs} {g : Gh} {w w' : World} {tmps : Array Value} {ds : List Deferred} {vm ss ss' : List Nat} {s : St} {P : Program} {o : Oper} {key : Nat}

/-- A value that is lent: read as it stands. -/
theorem FR.dv1 (h : FR F g w tmps vm ss s) {S' : Nat → Prop} (hS : ∀ b, S' b → SetOf F g s.ob b) {v : Value} {a : AV} (hk : ∀ k, k ∈ a.key1 → ∀ b, S' b → 0 < g.cap k → inOb s.ob k → b ≠ g.β k) (ha : SR1 (SetOf F g s.ob) w g s.ob v a) : VR S' w v (a.dv1 s.ob) := by
  cases a
  case own k =>
    obtain ⟨hm, ho, e⟩ := ha
    simp only [AV.dv1, ho, slOf]
    rcases e with e | ⟨hz, e⟩
    · rw [e]; exact (h.sl_of ho fun b hb => ⟨hS b hb, fun hp => hk k (by simp [AV.key1]) b hb hp ⟨hm, ho⟩⟩).1
    · rw [e, h.nil_els ho hz]
      exact .sl 0 0 (fun _ _ => undef) rfl (Nat.le_refl _) (h.home k hm ho).pos (fun hp => by simp at hp) (fun i hi => by simp at hi) (fun i j hi _ => by simp at hi) (fun i j hi _ => by simp at hi)
  case ref k i off =>
    obtain ⟨hm, ho, hi, e⟩ := ha
    simp only [AV.dv1, ho, ptrOf]
    rw [e]; exact (h.sl_of ho fun b hb => ⟨hS b hb, fun hp => hk k (by simp [AV.key1]) b hb hp ⟨hm, ho⟩⟩).2 i off hi |>.narrow
  case ptr sz els i off => exact (VR.mono (Same.refl _ _) (fun b _ c => hS b c) ha : VR S' w v (.ptr sz els i off)).narrow
  case fresh => exact .any
  case mem => exact .any
  case opt => exact .any
  case any => exact .any
  all_goals exact VR.mono (Same.refl _ _) (fun b _ c => hS b c) ha

theorem FR.dv (h : FR F g w tmps vm ss s) {S' : Nat → Prop} (hS : ∀ b, S' b → SetOf F g s.ob b) {v : Value} {a : AV} (hk : ∀ k, k ∈ a.keys → ∀ b, S' b → 0 < g.cap k → inOb s.ob k → b ≠ g.β k) (ha : SR (SetOf F g s.ob) w g s.ob v a) : VR S' w v (a.dv s.ob) := by
  have hl : ∀ (l : List AV) j, (l.map (AV.dv1 s.ob)).getD j .any = (l.getD j .any).dv1 s.ob := fun l j => getD_map_any _ rfl l j
  cases a
  case fn f a1 a2 =>
    obtain ⟨v1, v2, rfl, n1, n2, h1, h2⟩ := ha
    refine .fn (by simpa using n1) (by simpa using n2) (fun j hj => ?_) (fun j hj => ?_)
    · rw [hl]
      exact h.dv1 hS (fun k hkk => hk k (by simp only [AV.keys, List.flatMap_append, List.mem_append]; exact .inl (mem_flatMap_getD (by simpa using hj) hkk))) (h1 j (by simpa using hj))
    · rw [hl]
      exact h.dv1 hS (fun k hkk => hk k (by simp only [AV.keys, List.flatMap_append, List.mem_append]; exact .inr (mem_flatMap_getD (by simpa using hj) hkk))) (h2 j (by simpa using hj))
  case own k => exact h.dv1 (a := .own k) hS (fun k' hkk => hk k' hkk) ha
  case ref k i off => exact h.dv1 (a := .ref k i off) hS (fun k' hkk => hk k' hkk) ha
  case ptr sz els i off => exact h.dv1 (a := .ptr sz els i off) hS (fun k' hkk => hk k' hkk) ha
  case tup => exact .any
  case fresh => exact .any
  case mem => exact .any
  case opt => exact .any
  case any => exact .any
  all_goals exact VR.mono (Same.refl _ _) (fun b _ c => hS b c) ha

/-- The frame in which a callee begins. -/
theorem FR.args (h : FR F g w tmps vm ss s) {vals : Array Value} {as : List AV} {ms : List Md} (hsz : vals.size = as.length) (hv : ∀ j, j < as.length → SR (SetOf F g s.ob) w g s.ob (vals.getD j undef) (as.getD j .any))
    (hd : distinct (ioKeys ms as) = true) (hap : apart (ioKeys ms as) (borKeys ms as) = true) (hlen : ms.length = as.length) (hsh : shapes ms (handArgs s.ob ms as) = true)
    {Fc : Nat → Prop} (hFc : ∀ b, Fc b → SetOf F g s.ob b ∧ ∀ k, (k ∈ ioKeys ms as ∨ k ∈ borKeys ms as) → liv g s.ob k → g.β k ≠ b) :
    FR Fc (callGh g as) w vals (List.range as.length) [] (argSt (handArgs s.ob ms as)) := by
  obtain ⟨_, hsg⟩ := shapes_get _ _ hsh
  have hhl := handArgs_len s.ob ms as hlen
  rw [hhl] at hsg
  -- the blocks of the parameters
  have blk : ∀ k hm, obGet k (initOb 0 (handArgs s.ob ms as)) = some hm → ∃ j k0, k = paramKey j ∧ j < as.length ∧ ms.getD j .bor ≠ .bor ∧ obGet k0 s.ob = some hm ∧ k0 ∈ (as.getD j .any).key1 ∧ kk as j = k0 ∧ k0 ∈ ioKeys ms as := by
    intro k hm hg
    obtain ⟨j, rfl, hf⟩ := initOb_key hg
    have hj : j < as.length := by
      rcases Nat.lt_or_ge j as.length with h' | h'
      · exact h'
      · rw [List.getD_eq_getElem?_getD, List.getElem?_eq_none (by rw [hhl]; exact h')] at hf; simp [fmHm] at hf
    rw [handArgs_get _ _ _ _ hlen hj] at hf
    have hs := hsg j hj
    rw [handArgs_get _ _ _ _ hlen hj] at hs
    obtain ⟨h1, k0, h2, h3, h4⟩ := hand_fm hf (fun e => hs.1 e)
    refine ⟨j, k0, rfl, hj, h1, h3, h4, ?_, ioKeys_mem ms as j hlen hj h1 k0 h4⟩
    unfold kk
    rcases h2 with ⟨e, _⟩ | ⟨e, _⟩ <;> rw [e] <;> rfl
  have gk : ∀ j, (callGh g as).β (paramKey j) = g.β (kk as j) ∧ (callGh g as).cap (paramKey j) = g.cap (kk as j) := fun j => by
    simp [callGh, paramKey_div]
  have sub : ∀ b, SetOf Fc (callGh g as) (initOb 0 (handArgs s.ob ms as)) b → SetOf F g s.ob b := by
    intro b hb
    rcases hb with hb | ⟨k, ⟨⟨hm, hg⟩, hp⟩, e⟩
    · exact (hFc b hb).1
    · obtain ⟨j, k0, rfl, hj, _, ho, _, ek, _⟩ := blk k hm hg
      rw [(gk j).1, ek] at e
      rw [(gk j).2, ek] at hp
      exact .inr ⟨k0, ⟨⟨hm, ho⟩, hp⟩, e⟩
  have apb : ∀ k, k ∈ borKeys ms as → ∀ b, SetOf Fc (callGh g as) (initOb 0 (handArgs s.ob ms as)) b → 0 < g.cap k → inOb s.ob k → b ≠ g.β k := by
    intro k hk b hb hp hin e
    rcases hb with hb | ⟨k', ⟨⟨hm, hg⟩, hp'⟩, e'⟩
    · exact (hFc b hb).2 k (.inr hk) ⟨hin, hp⟩ e.symm
    · obtain ⟨j, k0, rfl, hj, _, ho, _, ek, hio⟩ := blk k' hm hg
      rw [(gk j).1, ek] at e'
      rw [(gk j).2, ek] at hp'
      have := h.inj k0 k ⟨⟨hm, ho⟩, hp'⟩ ⟨hin, hp⟩ (by rw [e', e])
      subst this
      exact apart_ne hap hio hk
  refine ⟨fun k hm hg => ?_, fun k k' hk hk' e => ?_, fun k hk => ?_, fun b hb => h.setLt (hFc b hb).1, ?_, rfl, fun j hj => ?_, fun j hj => by simp at hj, fun t ht => ?_, h.tab.mono (Same.refl _ _) fun b _ c => sub b c⟩
  · obtain ⟨j, k0, rfl, hj, _, ho, _, ek, _⟩ := blk k hm hg
    rw [(gk j).1, (gk j).2, ek]
    exact (h.home k0 hm ho).mono (Same.refl _ _) (fun _ => rfl) fun b _ c => sub b c
  · obtain ⟨⟨hm, hg⟩, hp⟩ := hk
    obtain ⟨⟨hm', hg'⟩, hp'⟩ := hk'
    obtain ⟨j, k0, rfl, hj, hjm, ho, hkey, ek, _⟩ := blk k hm hg
    obtain ⟨j', k0', rfl, hj', hjm', ho', hkey', ek', _⟩ := blk k' hm' hg'
    rw [(gk j).1, (gk j').1, ek, ek'] at e
    rw [(gk j).2, ek] at hp
    rw [(gk j').2, ek'] at hp'
    have := h.inj k0 k0' ⟨⟨hm, ho⟩, hp⟩ ⟨⟨hm', ho'⟩, hp'⟩ e
    subst this
    congr 1
    rcases Nat.lt_trichotomy j j' with hlt | heq | hlt
    · exact (ioKeys_ne ms as j j' hlen hd hlt hj' hjm hjm' k0 hkey hkey').elim
    · exact heq
    · exact (ioKeys_ne ms as j' j hlen hd hlt hj hjm' hjm k0 hkey' hkey).elim
  · obtain ⟨⟨hm, hg⟩, hp⟩ := hk
    obtain ⟨j, k0, rfl, hj, hjm, ho, hkey, ek, hio⟩ := blk k hm hg
    rw [(gk j).1, ek]
    rw [(gk j).2, ek] at hp
    exact fun hf => (hFc _ hf).2 k0 (.inl hio) ⟨⟨hm, ho⟩, hp⟩ rfl
  · simp [argSt, initTm_len, hhl]
  · have hj' : j < as.length := by simpa using hj
    have e1 : (List.range as.length).getD j 0 = j := by rw [List.getD_eq_getElem?_getD, List.getElem?_range hj']; rfl
    rw [e1]
    simp only [argSt]
    rw [initTm_get _ 0 j (by rw [hhl]; exact hj'), Nat.zero_add]
    have hs := hsg j hj'
    have hvj := hv j hj'
    have hget := handArgs_get s.ob ms as j hlen hj'
    rw [hget] at hs ⊢
    by_cases hb : ms.getD j .bor = .bor
    · have hnf := hs.1 hb
      have e2 : initA j (handArg s.ob (ms.getD j .bor) (as.getD j .any)) = handArg s.ob (ms.getD j .bor) (as.getD j .any) := by
        revert hnf
        generalize handArg s.ob (ms.getD j .bor) (as.getD j .any) = x
        intro hnf
        cases x <;> first | rfl | (simp [isFM] at hnf)
      rw [e2, hb]
      refine VR.toSR (h.dv sub (fun k hk b hbb hp hin => apb k (borKeys_mem ms as j hlen hj' hb k hk) b hbb hp hin) hvj)
    · cases hf : fmHm (handArg s.ob (ms.getD j .bor) (as.getD j .any)) with
      | some hm =>
        obtain ⟨_, k0, h2, h3, h4⟩ := hand_fm hf (fun e => absurd e hb)
        have hpk : obGet (paramKey j) (initOb 0 (handArgs s.ob ms as)) = some hm := by rw [initOb_paramKey, hget, hf]
        rcases h2 with ⟨e, e2⟩ | ⟨e, e2, e3⟩
        · rw [e2]
          rw [e] at hvj
          obtain ⟨hm', ho, hval⟩ := hvj
          rw [h3] at ho; cases ho
          have ek : kk as j = k0 := by unfold kk; rw [e]; rfl
          exact ⟨hm, hpk, by rw [(gk j).1, (gk j).2, ek]; exact hval⟩
        · rw [e2]
          rw [e] at hvj
          obtain ⟨hm', ho, hi, hval⟩ := hvj
          rw [h3] at ho; cases ho
          have ek : kk as j = k0 := by unfold kk; rw [e]; rfl
          exact ⟨hm, hpk, hi, by rw [(gk j).1, ek]; exact hval⟩
      | none =>
        have hnil : isNil (handArg s.ob (ms.getD j .bor) (as.getD j .any)) = true := by
          cases hm0 : ms.getD j .bor with
          | bor => exact absurd hm0 hb
          | io =>
            have := hs.2.1 hm0
            revert this hf
            rw [hm0]
            generalize handArg s.ob .io (as.getD j .any) = x
            intro hf this
            cases x <;> simp [isFM, fmHm] at this hf
          | mov =>
            rcases hs.2.2 hm0 with this | this
            · revert this hf
              rw [hm0]
              generalize handArg s.ob .mov (as.getD j .any) = x
              intro hf this
              cases x <;> simp [isFM, fmHm] at this hf
            · rw [hm0] at this; exact this
        have hx : handArg s.ob (ms.getD j .bor) (as.getD j .any) = .nilsl := by
          revert hnil
          generalize handArg s.ob (ms.getD j .bor) (as.getD j .any) = x
          intro hnil
          cases x <;> simp [isNil] at hnil
          rfl
        have ha : as.getD j .any = .nilsl := by
          have hio : handArg s.ob (ms.getD j .bor) (as.getD j .any) = ioArg s.ob (as.getD j .any) := by
            cases hm0 : ms.getD j .bor <;> first | exact absurd hm0 hb | rfl
          rw [hio] at hx
          revert hx
          generalize as.getD j .any = x
          intro hx
          cases x
          case own k => simp only [ioArg] at hx; cases ho : obGet k s.ob <;> rw [ho] at hx <;> simp [freshO] at hx
          case ref k i off =>
            unfold ioArg at hx
            split at hx
            · simp_all
            · rename_i k' e
              revert hx
              generalize obGet k' s.ob = y
              intro hx
              match y, hx with
              | none, hx => simp [memO] at hx
              | some ⟨sz, []⟩, hx => simp [memO] at hx
              | some ⟨sz, [q]⟩, hx => simp [memO] at hx
              | some ⟨sz, q :: q' :: r⟩, hx => simp [memO] at hx
            · simp_all
            · cases hx
          case nilsl => rfl
          all_goals simp [ioArg] at hx
        rw [hx]
        rw [ha] at hvj
        have := sr_nil hvj
        rw [this]
        exact VR.toSR .nilsl
  · rcases ht with ht | ht
    · rw [hsz]; simpa using ht
    · simp at ht

end
end Go.Proofs.Ytgbopjgnggdhkaa
