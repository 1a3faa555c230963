/- What typed forms say: volumes that cover a time; the gaps of an archive. No condition. -/
import Derived.Test.YtikaacjlnkfebaaHVolB
import Derived.Test.YtikaacjlnkfebaaHWin
namespace Go.Proofs.Ytikaacjlnkfebaa
open Go Go.RowKit
set_option linter.unusedSimpArgs false
set_option linter.unusedVariables false

def cvr (x : Volume) (t : Int) : Prop := 0 < x.Copies ∧ x.From ≤ t ∧ t ≤ x.To
def covd (l : List Volume) (t : Int) : Prop := ∃ x ∈ l, cvr x t

theorem reach_loop (l : List Volume) (hl : l.length ≤ 1000) (to_ t : Int) (out : List Int) : ∀ (m i : Nat) (best : Int), i + m = l.length →
    ((best = -1 ∧ ∀ k, k < i → ¬ cvr (l.getD k default) t) ∨ ∃ k : Nat, k < i ∧ best = (k : Int) ∧ cvr (l.getD k default) t) →
    ∃ r, whileE (spec_l23Reach_l1 l t) (best, (i : Int)) = some r ∧ whileE (impl_CoverTime_l2 l to_ out t l (l.length : Int)) (best, (i : Int)) = some r ∧
      ((r = -1 ∧ ∀ k, k < l.length → ¬ cvr (l.getD k default) t) ∨ ∃ k : Nat, k < l.length ∧ r = (k : Int) ∧ cvr (l.getD k default) t) := by
  intro m
  induction m with
  | zero =>
    intro i best hi h
    have e : i = l.length := by omega
    subst e
    refine ⟨best, whileE_done ?_, whileE_done ?_, h⟩
    · unfold spec_l23Reach_l1; dsimp only; rw [if_neg (by simp)]
    · unfold impl_CoverTime_l2; dsimp only; rw [if_neg (by simp)]
  | succ m ih =>
    intro i best hi h
    have hil : i < l.length := by omega
    obtain ⟨x, hx⟩ : ∃ x, l.getD i default = x := ⟨_, rfl⟩
    have c1 : decide ((i : Int) < (l.length : Int)) = true := decide_eq_true (by omega)
    have c2 : ixOk (i : Int) l.length = true := by rw [ixOk_nat]; exact decide_eq_true hil
    have w1 : IntKind.i64.wrap ((i : Int) + 1) = ((i + 1 : Nat) : Int) := wrap_nat1 (by omega)
    have c3 : ∀ b : Bool, (!(b && !(decide (best < 0))) || ixOk best l.length) = true := fun b => by
      rcases h with ⟨e, _⟩ | ⟨k, hk, e, _⟩
      · have : decide (best < 0) = true := decide_eq_true (by omega)
        rw [this]; simp
      · have : ixOk best l.length = true := by rw [e, ixOk_nat]; exact decide_eq_true (by omega)
        rw [this]; simp
    obtain ⟨B, hB⟩ : ∃ B, (decide (0 < x.Copies) && (decide (x.From ≤ t) && decide (t ≤ x.To))) = B := ⟨_, rfl⟩
    obtain ⟨D, hD⟩ : ∃ D, (decide (best < 0) || decide ((l.getD best.toNat default).To < x.To)) = D := ⟨_, rfl⟩
    have hB' : B = true ↔ cvr x t := by rw [← hB]; simp [cvr, Bool.and_eq_true]
    have hst1 : spec_l23Reach_l1 l t (best, (i : Int)) = some (.inl ((if (B && D) = true then (i : Int) else best), ((i + 1 : Nat) : Int))) := by
      unfold spec_l23Reach_l1
      dsimp only
      rw [if_pos c1, c2, ck_true]
      simp only [Int.toNat_natCast, hx, spec_l00In_is, Option.isSome_some, Option.getD_some, Bool.or_true, ck_true, hB, c3, hD, w1]
      split <;> rfl
    have hst2 : impl_CoverTime_l2 l to_ out t l (l.length : Int) (best, (i : Int)) = some (.inl ((if (B && D) = true then (i : Int) else best), ((i + 1 : Nat) : Int))) := by
      unfold impl_CoverTime_l2
      dsimp only
      rw [if_pos c1, c2, ck_true]
      simp only [Int.toNat_natCast, hx, impl_in_is, Option.isSome_some, Option.getD_some, Bool.or_true, ck_true, hB, c3, hD, w1]
      split <;> rfl
    rw [whileE_next hst1, whileE_next hst2]
    refine ih (i + 1) _ (by omega) ?_
    by_cases hc : (B && D) = true
    · rw [if_pos hc]
      simp only [Bool.and_eq_true] at hc
      exact .inr ⟨i, by omega, rfl, by rw [hx]; exact hB'.1 hc.1⟩
    · rw [if_neg hc]
      rcases h with ⟨e, h⟩ | ⟨k, hk, e, h⟩
      · have : D = true := by rw [← hD, decide_eq_true (show best < 0 by omega)]; rfl
        rw [this, Bool.and_true] at hc
        refine .inl ⟨e, fun k hk => ?_⟩
        rcases Nat.lt_or_ge k i with g | g
        · exact h k g
        · have : k = i := by omega
          rw [this, hx]
          exact fun c => hc (hB'.2 c)
      · exact .inr ⟨k, by omega, e, h⟩

theorem not_covd {l : List Volume} {t : Int} (h : ∀ k, k < l.length → ¬ cvr (l.getD k default) t) : ¬ covd l t := by
  rintro ⟨x, hx, hc⟩
  obtain ⟨i, hi, rfl⟩ := List.mem_iff_getElem.1 hx
  exact h i hi (by rw [getD_lt hi]; exact hc)

theorem reach_is (l : List Volume) (hl : l.length ≤ 1000) (to_ t : Int) (out : List Int) : ∃ r, spec_l23Reach l t = some r ∧ whileE (impl_CoverTime_l2 l to_ out t l (l.length : Int)) ((-1), 0) = some r ∧
    ((r = -1 ∧ ¬ covd l t) ∨ ∃ k : Nat, k < l.length ∧ r = (k : Int) ∧ cvr (l.getD k default) t) := by
  obtain ⟨r, h1, h2, h3⟩ := reach_loop l hl to_ t out l.length 0 (-1) (by omega) (.inl ⟨rfl, fun k hk => absurd hk (by omega)⟩)
  have h1' : whileE (spec_l23Reach_l1 l t) ((-1), 0) = some r := h1
  refine ⟨r, ?_, h2, ?_⟩
  · unfold spec_l23Reach
    rw [h1']; rfl
  · rcases h3 with ⟨e, h⟩ | h
    · exact .inl ⟨e, not_covd h⟩
    · exact .inr h

theorem cover_step (l : List Volume) (hl : l.length ≤ 1000) (to_ : Int) : impl_CoverTime_l1 l to_ = spec_CoverTime_l1 l to_ := by
  funext ⟨out, t⟩
  obtain ⟨r, h1, h2, _⟩ := reach_is l hl to_ t out
  unfold impl_CoverTime_l1 spec_CoverTime_l1
  dsimp only
  rw [h1, h2]

/-- Each one begins where what came before has ended, or earlier, and goes on from there. -/
def Path (l : List Volume) : Int → List Int → Int → Prop
  | t0, [], t => t = t0
  | t0, i :: r, t => ∃ k : Nat, i = (k : Int) ∧ k < l.length ∧ cvr (l.getD k default) t0 ∧ Path l ((l.getD k default).To + 1) r t

theorem Path.add {l : List Volume} {k : Nat} (hk : k < l.length) {t : Int} (hc : cvr (l.getD k default) t) : ∀ {t0 : Int} {out : List Int}, Path l t0 out t → Path l t0 (out ++ [(k : Int)]) ((l.getD k default).To + 1)
  | t0, [], h => by
    have h : t = t0 := h
    subst h
    exact ⟨k, rfl, hk, hc, rfl⟩
  | t0, i :: r, ⟨j, e, hj, c, p⟩ => ⟨j, e, hj, c, Path.add hk hc p⟩

theorem Path.covers {l : List Volume} : ∀ {t0 t : Int} {out : List Int}, Path l t0 out t → ∀ u, t0 ≤ u → u < t → covd l u
  | t0, t, [], h, u, h1, h2 => by have h : t = t0 := h; omega
  | t0, t, i :: r, ⟨j, e, hj, c, p⟩, u, h1, h2 => by
    by_cases g : u ≤ (l.getD j default).To
    · exact ⟨_, getD_mem hj default, c.1, by have := c.2.1; omega, g⟩
    · exact Path.covers p u (by omega) h2

theorem validV_good {l : List Volume} (h : validV l = true) : goodV l = true ∧ l.length ≤ 40 := by
  unfold validV at h
  simp only [Bool.and_eq_true, decide_eq_true_eq] at h
  exact h

theorem valid_one {l : List Volume} (h : validV l = true) {x : Volume} (hx : x ∈ l) : 0 ≤ x.From ∧ x.From ≤ x.To ∧ x.To ≤ 10000000 := by
  obtain ⟨i, hi, rfl⟩ := List.mem_iff_getElem.1 hx
  have := (oneV_in (goodV_iff.1 (validV_good h).1 i hi).1).1
  rwa [getD_lt hi] at this

def timeV (t : Int) : Bool := decide (0 ≤ t) && decide (t ≤ 10000000)

/-- The code of a question about an archive and some times. -/
def codeA (l : List Volume) (f t : Int) : Int := if validV l = true then (if (timeV f && timeV t && decide (f ≤ t)) = true then 0 else 2) else 1

theorem codeA_0 {l : List Volume} {f t : Int} (h : codeA l f t = 0) : validV l = true ∧ 0 ≤ f ∧ f ≤ t ∧ t ≤ 10000000 := by
  unfold codeA at h
  split at h
  · split at h
    · rename_i h1 h2
      simp only [timeV, Bool.and_eq_true, decide_eq_true_eq] at h2
      exact ⟨h1, by omega, by omega, by omega⟩
    · omega
  · omega

theorem archived_is {l : List Volume} (hl : l.length ≤ 1000) (f t : Int) : impl_archived l f t = some (codeA l f t) ∧ spec_l23Code l f t = some (codeA l f t) := by
  unfold impl_archived spec_l23Code codeA impl_ValidTime spec_l03Time
  rw [ValidVolumes_is (by omega), l23Ok_is (by omega)]
  simp only [Option.bind_some, impl_in_is, spec_l00In_is, Option.isSome_some, Option.getD_some, Bool.or_true, ck_true]
  have e : decide (t < f) = !decide (f ≤ t) := by rw [Bool.eq_iff_iff]; simp
  rw [e]
  unfold timeV
  generalize (decide (0 ≤ f) && decide (f ≤ 10000000)) = A
  generalize (decide (0 ≤ t) && decide (t ≤ 10000000)) = B
  generalize decide (f ≤ t) = C
  cases validV l <;> cases A <;> cases B <;> cases C <;> exact ⟨rfl, rfl⟩

theorem cover_loop {l : List Volume} (hv : validV l = true) {f to_ : Int} (h0 : 0 ≤ f) (h1 : to_ ≤ 10000000) : ∀ (m : Nat) (out : List Int) (t : Int), (to_ + 1 - t).toNat ≤ m → f ≤ t → t ≤ 10000001 → (out.length : Int) ≤ t - f → Path l f out t →
    ∃ r, whileE (spec_CoverTime_l1 l to_) (out, t) = some r ∧ ((∃ o u, r = .inl o ∧ to_ < u ∧ Path l f o u ∧ o.length ≤ 10000001) ∨ (r = .inr ([], 3) ∧ ∃ u, f ≤ u ∧ u ≤ to_ ∧ ¬ covd l u)) := by
  have hl : l.length ≤ 1000 := by have := (validV_good hv).2; omega
  intro m
  induction m with
  | zero =>
    intro out t hm hf ht ho hp
    refine ⟨.inl out, whileE_done ?_, .inl ⟨out, t, rfl, by omega, hp, by omega⟩⟩
    unfold spec_CoverTime_l1; dsimp only; rw [if_neg (by simp; omega)]
  | succ m ih =>
    intro out t hm hf ht ho hp
    by_cases hc : t ≤ to_
    · obtain ⟨r, e1, _, e3⟩ := reach_is l hl to_ t out
      rcases e3 with ⟨rfl, hn⟩ | ⟨k, hk, rfl, hcv⟩
      · refine ⟨.inr ([], 3), whileE_done ?_, .inr ⟨rfl, t, hf, hc, hn⟩⟩
        unfold spec_CoverTime_l1
        dsimp only
        rw [if_pos (decide_eq_true hc), e1]
        rfl
      · have hone := valid_one hv (getD_mem hk default)
        have w1 : IntKind.i64.wrap ((l.getD k default).To + 1) = (l.getD k default).To + 1 := wrap_i64 (by omega) (by omega)
        have hst : spec_CoverTime_l1 l to_ (out, t) = some (.inl (out ++ [(k : Int)], (l.getD k default).To + 1)) := by
          unfold spec_CoverTime_l1
          dsimp only
          rw [if_pos (decide_eq_true hc), e1, Option.bind_some, if_neg (by simp), appOk_of (by simp; omega), ck_true, ixOk_nat, decide_eq_true hk, ck_true, Int.toNat_natCast, w1]
        have h2 := hcv.2.2
        rw [whileE_next hst]
        have hlen : (out ++ [(k : Int)]).length = out.length + 1 := by simp
        exact ih _ _ (by omega) (by omega) (by omega) (by omega) (Path.add hk hcv hp)
    · refine ⟨.inl out, whileE_done ?_, .inl ⟨out, t, rfl, by omega, hp, by omega⟩⟩
      unfold spec_CoverTime_l1; dsimp only; rw [if_neg (by simpa using hc)]

/-- The volumes that cover a time. -/
theorem Cover_same {l : List Volume} (hl : l.length ≤ 1000) (f t : Int) : ∃ o c, impl_CoverTime l f t = some (o, c) ∧ spec_CoverTime l f t = some (o, c) ∧ o.length ≤ 10000001 ∧
    (codeA l f t ≠ 0 → o = [] ∧ c = codeA l f t) ∧ (codeA l f t = 0 → (c = 0 ∧ ∃ u, t < u ∧ Path l f o u) ∨ (c = 3 ∧ o = [] ∧ ∃ u, f ≤ u ∧ u ≤ t ∧ ¬ covd l u)) := by
  obtain ⟨a1, a2⟩ := archived_is hl f t
  unfold impl_CoverTime spec_CoverTime
  rw [a1, a2, Option.bind_some, cover_step l hl]
  by_cases h : codeA l f t = 0
  · obtain ⟨hv, h0, _, h1⟩ := codeA_0 h
    obtain ⟨r, e, hr⟩ := cover_loop hv h0 h1 (t + 1 - f).toNat [] f (Nat.le_refl _) (by omega) (by omega) (by simp) rfl
    rw [h]
    simp only [beq_self_eq_true, Bool.not_true, Bool.false_eq_true, if_false, e, Option.bind_some]
    rcases hr with ⟨o, u, rfl, hu, hp, hlen⟩ | ⟨rfl, hu⟩
    · exact ⟨o, 0, rfl, rfl, hlen, fun c => absurd rfl c, fun _ => .inl ⟨rfl, u, hu, hp⟩⟩
    · exact ⟨[], 3, rfl, rfl, by simp, fun c => absurd rfl c, fun _ => .inr ⟨rfl, rfl, hu⟩⟩
  · have e : (!(codeA l f t == 0)) = true := by simp [h]
    rw [if_pos e, Option.bind_some, if_pos e]
    exact ⟨[], codeA l f t, rfl, rfl, by simp, fun _ => ⟨rfl, rfl⟩, fun c => absurd c h⟩

/-! ### Gaps -/

def winV (x : Volume) : Window := ⟨x.From, x.To⟩

theorem have_loop (l : List Volume) (hl : l.length ≤ 1000) (f t : Int) : ∃ o, whileE (impl_GapsOfArchive_l1 f t l (l.length : Int)) (([] : List Window), 0) = some o ∧ o.length ≤ l.length ∧ (∀ w, w ∈ o ↔ ∃ x ∈ l, 0 < x.Copies ∧ w = winV x) := by
  have key : ∀ (m i : Nat) (out : List Window), i + m = l.length → out.length ≤ i → (∀ w, w ∈ out ↔ ∃ x ∈ l.take i, 0 < x.Copies ∧ w = winV x) →
      ∃ o, whileE (impl_GapsOfArchive_l1 f t l (l.length : Int)) (out, (i : Int)) = some o ∧ o.length ≤ l.length ∧ (∀ w, w ∈ o ↔ ∃ x ∈ l, 0 < x.Copies ∧ w = winV x) := by
    intro m
    induction m with
    | zero =>
      intro i out hi ho q
      refine ⟨out, whileE_done ?_, by omega, fun w => by rw [q, List.take_of_length_le (by omega)]⟩
      unfold impl_GapsOfArchive_l1; dsimp only; rw [if_neg (by simp; omega)]
    | succ m ih =>
      intro i out hi ho q
      have hil : i < l.length := by omega
      obtain ⟨x, hx⟩ : ∃ x, l.getD i default = x := ⟨_, rfl⟩
      have hxi : l[i] = x := by rw [← hx, getD_lt hil]
      have htk : l.take (i + 1) = l.take i ++ [x] := by rw [List.take_succ_eq_append_getElem hil, hxi]
      have c1 : decide ((i : Int) < (l.length : Int)) = true := decide_eq_true (by omega)
      have c2 : ixOk (i : Int) l.length = true := by rw [ixOk_nat]; exact decide_eq_true hil
      have w1 : IntKind.i64.wrap ((i : Int) + 1) = ((i + 1 : Nat) : Int) := wrap_nat1 (by omega)
      by_cases hc : 0 < x.Copies
      · have hst : impl_GapsOfArchive_l1 f t l (l.length : Int) (out, (i : Int)) = some (.inl (out ++ [winV x], ((i + 1 : Nat) : Int))) := by
          unfold impl_GapsOfArchive_l1
          dsimp only
          rw [if_pos c1, c2, ck_true]
          simp only [Int.toNat_natCast, hx, decide_eq_true hc, if_true, w1]
          rw [appOk_of (by simp; omega), ck_true]
          rfl
        rw [whileE_next hst]
        refine ih (i + 1) _ (by omega) (by simp; omega) fun w => ?_
        rw [List.mem_append, q, htk]
        constructor
        · rintro (⟨y, hy, k⟩ | h)
          · exact ⟨y, List.mem_append.2 (.inl hy), k⟩
          · exact ⟨x, by simp, hc, List.mem_singleton.1 h⟩
        · rintro ⟨y, hy, k1, k2⟩
          rcases List.mem_append.1 hy with h | h
          · exact .inl ⟨y, h, k1, k2⟩
          · rw [List.mem_singleton.1 h] at k2
            exact .inr (List.mem_singleton.2 k2)
      · have hst : impl_GapsOfArchive_l1 f t l (l.length : Int) (out, (i : Int)) = some (.inl (out, ((i + 1 : Nat) : Int))) := by
          unfold impl_GapsOfArchive_l1
          dsimp only
          rw [if_pos c1, c2, ck_true]
          simp only [Int.toNat_natCast, hx, decide_eq_false hc, Bool.false_eq_true, if_false, w1]
        rw [whileE_next hst]
        refine ih (i + 1) _ (by omega) (by omega) fun w => ?_
        rw [q, htk]
        constructor
        · rintro ⟨y, hy, k⟩
          exact ⟨y, List.mem_append.2 (.inl hy), k⟩
        · rintro ⟨y, hy, k1, k2⟩
          rcases List.mem_append.1 hy with h | h
          · exact ⟨y, h, k1, k2⟩
          · rw [List.mem_singleton.1 h] at k1
            exact absurd k1 hc
  exact key l.length 0 [] (by omega) (by simp) (fun w => by simp)

theorem next_loop (l : List Volume) (hl : l.length ≤ 1000) (to_ : Int) (out : List Window) (t : Int) (ht : t ≤ to_) (hb : to_ ≤ 10000000) (h0 : 0 ≤ t) : ∃ nx, whileE (spec_GapsOfArchive_l2 l to_ out t) ((IntKind.i64.wrap (to_ + 1)), 0) = some nx ∧
    t < nx ∧ nx ≤ to_ + 1 ∧ (∀ x ∈ l, 0 < x.Copies → t < x.From → nx ≤ x.From) ∧ (nx = to_ + 1 ∨ ∃ x ∈ l, 0 < x.Copies ∧ nx = x.From) := by
  have key : ∀ (m i : Nat) (nx : Int), i + m = l.length → t < nx → nx ≤ to_ + 1 → (∀ x ∈ l.take i, 0 < x.Copies → t < x.From → nx ≤ x.From) → (nx = to_ + 1 ∨ ∃ x ∈ l, 0 < x.Copies ∧ nx = x.From) →
      ∃ nx', whileE (spec_GapsOfArchive_l2 l to_ out t) (nx, (i : Int)) = some nx' ∧ t < nx' ∧ nx' ≤ to_ + 1 ∧ (∀ x ∈ l, 0 < x.Copies → t < x.From → nx' ≤ x.From) ∧ (nx' = to_ + 1 ∨ ∃ x ∈ l, 0 < x.Copies ∧ nx' = x.From) := by
    intro m
    induction m with
    | zero =>
      intro i nx hi a b c d
      refine ⟨nx, whileE_done ?_, a, b, fun x hx => c x (by rw [List.take_of_length_le (by omega)]; exact hx), d⟩
      unfold spec_GapsOfArchive_l2; dsimp only; rw [if_neg (by simp; omega)]
    | succ m ih =>
      intro i nx hi a b c d
      have hil : i < l.length := by omega
      obtain ⟨x, hx⟩ : ∃ x, l.getD i default = x := ⟨_, rfl⟩
      have hxi : l[i] = x := by rw [← hx, getD_lt hil]
      have hxm : x ∈ l := by rw [← hxi]; exact List.getElem_mem hil
      have htk : l.take (i + 1) = l.take i ++ [x] := by rw [List.take_succ_eq_append_getElem hil, hxi]
      have c1 : decide ((i : Int) < (l.length : Int)) = true := decide_eq_true (by omega)
      have c2 : ixOk (i : Int) l.length = true := by rw [ixOk_nat]; exact decide_eq_true hil
      have w1 : IntKind.i64.wrap ((i : Int) + 1) = ((i + 1 : Nat) : Int) := wrap_nat1 (by omega)
      by_cases hc : 0 < x.Copies ∧ t < x.From
      · have e : (decide (0 < x.Copies) && decide (t < x.From)) = true := by simp [hc.1, hc.2]
        obtain ⟨mn, hmn⟩ : ∃ mn, spec_l00Min nx x.From = some mn ∧ mn ≤ nx ∧ mn ≤ x.From ∧ (mn = nx ∨ mn = x.From) := by
          unfold spec_l00Min
          by_cases g : nx < x.From
          · exact ⟨nx, by rw [if_pos (decide_eq_true g)], by omega, by omega, .inl rfl⟩
          · exact ⟨x.From, by rw [if_neg (by simpa using g)], by omega, by omega, .inr rfl⟩
        have hst : spec_GapsOfArchive_l2 l to_ out t (nx, (i : Int)) = some (.inl (mn, ((i + 1 : Nat) : Int))) := by
          unfold spec_GapsOfArchive_l2
          dsimp only
          rw [if_pos c1, c2, ck_true]
          simp only [Int.toNat_natCast, hx, e, if_true, hmn.1, Option.bind_some, w1]
        rw [whileE_next hst]
        obtain ⟨_, m1, m2, m3⟩ := hmn
        refine ih (i + 1) mn (by omega) (by rcases m3 with h | h <;> omega) (by omega) (fun y hy k1 k2 => ?_) ?_
        · rw [htk] at hy
          rcases List.mem_append.1 hy with h | h
          · have := c y h k1 k2; omega
          · rw [List.mem_singleton.1 h]; exact m2
        · rcases m3 with h | h
          · rw [h]; exact d
          · exact .inr ⟨x, hxm, hc.1, h⟩
      · have e : (decide (0 < x.Copies) && decide (t < x.From)) = false := by
          rw [Bool.eq_false_iff]; simpa using hc
        have hst : spec_GapsOfArchive_l2 l to_ out t (nx, (i : Int)) = some (.inl (nx, ((i + 1 : Nat) : Int))) := by
          unfold spec_GapsOfArchive_l2
          dsimp only
          rw [if_pos c1, c2, ck_true]
          simp only [Int.toNat_natCast, hx, e, Bool.false_eq_true, if_false, w1]
        rw [whileE_next hst]
        refine ih (i + 1) nx (by omega) a b (fun y hy k1 k2 => ?_) d
        rw [htk] at hy
        rcases List.mem_append.1 hy with h | h
        · exact c y h k1 k2
        · rw [List.mem_singleton.1 h] at k1 k2
          exact absurd ⟨k1, k2⟩ hc
  have w0 : IntKind.i64.wrap (to_ + 1) = to_ + 1 := wrap_i64 (by omega) (by omega)
  rw [w0]
  exact key l.length 0 (to_ + 1) (by omega) (by omega) (by omega) (fun x hx => by simp at hx) (.inl rfl)

theorem gaps_loop {l : List Volume} (hv : validV l = true) {f to_ : Int} (h0 : 0 ≤ f) (h1 : to_ ≤ 10000000) : ∀ (m : Nat) (out : List Window) (t : Int), (to_ + 1 - t).toNat ≤ m → f ≤ t → t ≤ 10000001 → (out.length : Int) ≤ t - f → Fit out → Apart out →
    (∀ w ∈ out, w.To + 1 ≤ t ∧ (w.To + 1 = t → t ≤ to_ → covd l t)) → (∀ u, inW out u ↔ f ≤ u ∧ u < t ∧ u ≤ to_ ∧ ¬ covd l u) →
    ∃ r, whileE (spec_GapsOfArchive_l1 l to_) (out, t) = some r ∧ Fit r ∧ Apart r ∧ r.length ≤ 10000001 ∧ ∀ u, inW r u ↔ f ≤ u ∧ u ≤ to_ ∧ ¬ covd l u := by
  have hl : l.length ≤ 1000 := by have := (validV_good hv).2; omega
  have fin : ∀ (out : List Window) (t : Int), ¬ t ≤ to_ → t ≤ 10000001 → (out.length : Int) ≤ t - f → Fit out → Apart out → (∀ u, inW out u ↔ f ≤ u ∧ u < t ∧ u ≤ to_ ∧ ¬ covd l u) →
      ∃ r, whileE (spec_GapsOfArchive_l1 l to_) (out, t) = some r ∧ Fit r ∧ Apart r ∧ r.length ≤ 10000001 ∧ ∀ u, inW r u ↔ f ≤ u ∧ u ≤ to_ ∧ ¬ covd l u := by
    intro out t hc ht ho hfit hap q
    refine ⟨out, whileE_done ?_, hfit, hap, by omega, fun u => ?_⟩
    · unfold spec_GapsOfArchive_l1; dsimp only; rw [if_neg (by simpa using hc)]
    · rw [q]
      constructor
      · rintro ⟨a, _, c, d⟩; exact ⟨a, c, d⟩
      · rintro ⟨a, c, d⟩; exact ⟨a, by omega, c, d⟩
  intro m
  induction m with
  | zero =>
    intro out t hm hf ht ho hfit hap hed q
    exact fin out t (by omega) ht ho hfit hap q
  | succ m ih =>
    intro out t hm hf ht ho hfit hap hed q
    by_cases hc : t ≤ to_
    · obtain ⟨r, e1, _, e3⟩ := reach_is l hl to_ t []
      rcases e3 with ⟨rfl, hn⟩ | ⟨k, hk, rfl, hcv⟩
      · obtain ⟨nx, n1, n2, n3, n4, n5⟩ := next_loop l hl to_ out t hc h1 (by omega)
        have w1 : IntKind.i64.wrap (nx - 1) = nx - 1 := wrap_i64 (by omega) (by omega)
        have hst : spec_GapsOfArchive_l1 l to_ (out, t) = some (.inl (out ++ [⟨t, nx - 1⟩], nx)) := by
          unfold spec_GapsOfArchive_l1
          dsimp only
          rw [if_pos (decide_eq_true hc), e1, Option.bind_some, if_neg (by simp), n1, Option.bind_some, w1, appOk_of (by simp; omega), ck_true]
        have none : ∀ u, t ≤ u → u < nx → ¬ covd l u := by
          rintro u a b ⟨x, hx, c⟩
          by_cases g : t < x.From
          · have := n4 x hx c.1 g
            have := c.2.1
            omega
          · exact hn ⟨x, hx, c.1, by omega, by have := c.2.2; omega⟩
        rw [whileE_next hst]
        refine ih _ nx (by omega) (by omega) (by omega) (by simp; omega) (fun w hw => ?_) (List.pairwise_append.2 ⟨hap, List.pairwise_singleton _ _, fun w hw v hv' => ?_⟩) (fun w hw => ?_) (fun u => ?_)
        · rcases List.mem_append.1 hw with h | h
          · exact hfit w h
          · rw [List.mem_singleton.1 h]
            refine ⟨?_, ?_, ?_⟩
            · show 0 ≤ t; omega
            · show t ≤ nx - 1; omega
            · show nx - 1 ≤ 1000000000; omega
        · rw [List.mem_singleton.1 hv']
          show w.To + 1 < t
          obtain ⟨g1, g2⟩ := hed w hw
          by_cases g : w.To + 1 = t
          · exact absurd (g2 g hc) hn
          · omega
        · rcases List.mem_append.1 hw with h | h
          · obtain ⟨g1, g2⟩ := hed w h
            exact ⟨by omega, fun c => by omega⟩
          · rw [List.mem_singleton.1 h]
            refine ⟨by show nx - 1 + 1 ≤ nx; omega, fun _ c => ?_⟩
            rcases n5 with e | ⟨x, hx, k1, k2⟩
            · omega
            · have := valid_one hv hx
              exact ⟨x, hx, k1, by omega, by omega⟩
        · rw [inW_app, inW_cons, q]
          have e1 : ¬ inW [] u := inW_nil
          constructor
          · rintro (⟨a, b, c, d⟩ | a | a)
            · exact ⟨a, by omega, c, d⟩
            · have a : t ≤ u ∧ u ≤ nx - 1 := a
              exact ⟨by omega, by omega, by omega, none u a.1 (by omega)⟩
            · exact absurd a e1
          · rintro ⟨a, b, c, d⟩
            by_cases g : u < t
            · exact .inl ⟨a, g, c, d⟩
            · exact .inr (.inl ⟨by show t ≤ u; omega, by show u ≤ nx - 1; omega⟩)
      · have hone := valid_one hv (getD_mem hk default)
        have w1 : IntKind.i64.wrap ((l.getD k default).To + 1) = (l.getD k default).To + 1 := wrap_i64 (by omega) (by omega)
        have hst : spec_GapsOfArchive_l1 l to_ (out, t) = some (.inl (out, (l.getD k default).To + 1)) := by
          unfold spec_GapsOfArchive_l1
          dsimp only
          rw [if_pos (decide_eq_true hc), e1, Option.bind_some, if_pos (by simp), ixOk_nat, decide_eq_true hk, ck_true, Int.toNat_natCast, w1]
        have h2 := hcv.2.2
        rw [whileE_next hst]
        refine ih _ _ (by omega) (by omega) (by omega) (by omega) hfit hap (fun w hw => ?_) (fun u => ?_)
        · obtain ⟨g1, g2⟩ := hed w hw
          exact ⟨by omega, fun c => by omega⟩
        · rw [q]
          constructor
          · rintro ⟨a, b, c, d⟩; exact ⟨a, by omega, c, d⟩
          · rintro ⟨a, b, c, d⟩
            refine ⟨a, ?_, c, d⟩
            rcases Int.lt_or_le u t with g | g
            · exact g
            · exact absurd ⟨_, getD_mem hk default, hcv.1, by have := hcv.2.1; omega, by omega⟩ d
    · exact fin out t hc ht ho hfit hap q

theorem Gaps_same {l : List Volume} (hl : l.length ≤ 800) (f t : Int) : ∃ y c, impl_GapsOfArchive l f t = some (y, c) ∧ spec_GapsOfArchive l f t = some (y, c) ∧ y.length ≤ 1000000 ∧ (codeA l f t ≠ 0 → y = [] ∧ c = codeA l f t) ∧
    (codeA l f t = 0 → c = 0 ∨ c = 5) ∧ (c = 0 → codeA l f t = 0 ∧ Fit y ∧ ∀ u, inW y u ↔ f ≤ u ∧ u ≤ t ∧ ¬ covd l u) := by
  obtain ⟨a1, a2⟩ := archived_is (l := l) (by omega) f t
  unfold impl_GapsOfArchive spec_GapsOfArchive
  rw [a1, a2, Option.bind_some, Option.bind_some]
  by_cases h : codeA l f t = 0
  · obtain ⟨hv, h0, hft, h1⟩ := codeA_0 h
    obtain ⟨o, e1, e2, e3⟩ := have_loop l (by omega) f t
    have fo : Fit o := fun w hw => by
      obtain ⟨x, hx, _, rfl⟩ := (e3 w).1 hw
      have := valid_one hv hx
      refine ⟨?_, ?_, ?_⟩
      · show 0 ≤ x.From; omega
      · show x.From ≤ x.To; omega
      · show x.To ≤ 1000000000; omega
    have io : ∀ u, inW o u ↔ covd l u := fun u => by
      constructor
      · rintro ⟨w, hw, k⟩
        obtain ⟨x, hx, hc, rfl⟩ := (e3 w).1 hw
        exact ⟨x, hx, hc, k⟩
      · rintro ⟨x, hx, hc, k⟩
        exact ⟨winV x, (e3 _).2 ⟨x, hx, hc, rfl⟩, k⟩
    obtain ⟨r, r1, r2, r3, r4, r5⟩ := without_is (a := [⟨f, t⟩]) (b := o) (by simp) (by omega) (fun w hw => by
      rw [List.mem_singleton.1 hw]
      refine ⟨h0, hft, ?_⟩
      show t ≤ 1000000000; omega) fo (fun w hw => by rw [List.mem_singleton.1 hw]; exact h1)
    obtain ⟨s, s1, s2, s3, s4, s5⟩ := gaps_loop hv h0 h1 (t + 1 - f).toNat [] f (Nat.le_refl _) (by omega) (by omega) (by simp) (fun w hw => by cases hw) List.Pairwise.nil (fun w hw => by cases hw) (fun u => by
      constructor
      · intro c; exact absurd c inW_nil
      · rintro ⟨a, b, _⟩; omega)
    have same : r = s := apart_unique r2 s2 r3 s3 fun u => by
      rw [r5, s5, io, inW_cons]
      have e1 : ¬ inW [] u := inW_nil
      constructor
      · rintro ⟨a | a, b⟩
        · exact ⟨a.1, a.2, b⟩
        · exact absurd a e1
      · rintro ⟨a, b, c⟩; exact ⟨.inl ⟨a, b⟩, c⟩
    rw [h]
    simp only [beq_self_eq_true, Bool.not_true, Bool.false_eq_true, if_false, e1, s1, r1, Option.bind_some, impl_fewWindows, ← same]
    by_cases hc : (30 : Int) < (r.length : Int)
    · simp only [hc, decide_true, if_true, Option.bind_some]
      exact ⟨[], 5, rfl, rfl, by simp, fun c => absurd rfl c, fun _ => .inr rfl, fun c => absurd c (by omega)⟩
    · simp only [hc, decide_false, Bool.false_eq_true, if_false, Option.bind_some]
      exact ⟨r, 0, rfl, rfl, r4, fun c => absurd rfl c, fun _ => .inl rfl, fun _ => ⟨trivial, r2, fun u => by rw [same]; exact s5 u⟩⟩
  · have e : (!(codeA l f t == 0)) = true := by simp [h]
    rw [if_pos e, if_pos e]
    exact ⟨[], codeA l f t, rfl, rfl, by simp, fun _ => ⟨rfl, rfl⟩, fun c => absurd c h, fun c => absurd c h⟩

end Go.Proofs.Ytikaacjlnkfebaa
