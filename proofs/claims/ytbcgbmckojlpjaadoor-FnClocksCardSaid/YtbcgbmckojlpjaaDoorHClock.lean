/- What typed forms say: times of days, their texts, hours between them. No condition. -/
import Derived.Test.YtbcgbmckojlpjaaDoorHDrawS
namespace Go.Proofs.YtbcgbmckojlpjaaDoor
open Go Go.RowKit
set_option linter.unusedSimpArgs false
set_option linter.unusedVariables false

def timeOk (t : Int) : Bool := decide (0 ≤ t) && decide (t ≤ 10000000)
theorem timeOk_iff {t : Int} : timeOk t = true ↔ 0 ≤ t ∧ t ≤ 10000000 := by simp [timeOk]
theorem impl_ValidTime_is (t : Int) : impl_ValidTime t = some (timeOk t) := id rfl
theorem l03Time_is (t : Int) : spec_l03Time t = some (timeOk t) := id rfl

/-! ### Of hours and minutes -/

theorem floorDiv_is {a b : Int} (hb : 0 < b) (ha : -4611686018427387904 ≤ a) (ha2 : a ≤ 4611686018427387904) : impl_floorDiv a b = some (a / b) := by
  unfold impl_floorDiv
  have hne : b ≠ 0 := by omega
  rw [nz_of hne, ck_true]
  have h2 := Int.mul_ediv_add_emod a b
  have h3 := Int.emod_nonneg a hne
  have h4 := Int.emod_lt_of_pos a hb
  have h8 : -4611686018427387904 ≤ a.tdiv b ∧ a.tdiv b ≤ 4611686018427387904 := by
    have : (a.tdiv b).natAbs ≤ a.natAbs := by rw [Int.natAbs_tdiv]; exact Nat.div_le_self _ _
    omega
  rw [wrap_i64 (n := a.tdiv b) (by omega) (by omega)]
  by_cases h0 : 0 ≤ a
  · have e1 := td (b := b) h0
    have e2 := tm (b := b) h0
    have : ¬ a.tmod b < 0 := by omega
    simp [this, e1]
  · have e1 : a.tdiv b = -((-a) / b) := by
      have := Int.neg_tdiv a b
      rw [td (by omega)] at this
      omega
    have e2 : a.tmod b = -((-a) % b) := by
      have := Int.neg_tmod a b
      rw [tm (by omega)] at this
      omega
    have h5 := Int.mul_ediv_add_emod (-a) b
    have h6 := Int.emod_nonneg (-a) hne
    have h7 := Int.emod_lt_of_pos (-a) hb
    by_cases c : (-a) % b = 0
    · have : ¬ a.tmod b < 0 := by omega
      simp only [this, decide_false, Bool.false_eq_true, if_false, Option.some.injEq]
      have hd : a / b = -((-a) / b) := by
        have hdvd : b ∣ -a := Int.dvd_of_emod_eq_zero c
        obtain ⟨k, hk⟩ := hdvd
        have : a = b * (-k) := by rw [Int.mul_neg, ← hk]; omega
        rw [hk, Int.mul_ediv_cancel_left _ hne, this, Int.mul_ediv_cancel_left _ hne]
      rw [e1, hd]
    · have : a.tmod b < 0 := by omega
      simp only [this, decide_true, if_true, Option.some.injEq]
      rw [wrap_i64 (by omega) (by omega), e1]
      have hd : a / b = -((-a) / b) - 1 := by
        have key : a = b * (-((-a) / b) - 1) + (b - (-a) % b) := by
          rw [Int.mul_sub, Int.mul_neg, Int.mul_one]; omega
        have := Int.add_mul_ediv_left (b - (-a) % b) (-((-a) / b) - 1) hne
        rw [Int.add_comm, ← key] at this
        rw [this, Int.ediv_eq_zero_of_lt (by omega) (by omega)]; omega
      rw [hd]

def clockP (day hour minute : Int) : Int := day * 10000 + ((hour * 60 + minute) * 10000 + 1439) / 1440

theorem TimeOf_same (day hour minute : Int) : ∃ t e, impl_TimeOf day hour minute = some (t, e) ∧ spec_TimeOf day hour minute = some (t, e) ∧
    (e = 0 → 0 ≤ day ∧ day ≤ 100000 ∧ 0 ≤ hour ∧ hour ≤ 23 ∧ 0 ≤ minute ∧ minute ≤ 59 ∧ t = clockP day hour minute ∧ timeOk t = true) := by
  unfold impl_TimeOf spec_TimeOf
  simp only [in_is, l00In_is, Option.bind_some, Option.isSome_some, Option.getD_some, Bool.or_true, ck_true]
  by_cases h : (0 ≤ day ∧ day ≤ 100000) ∧ (0 ≤ hour ∧ hour ≤ 23) ∧ (0 ≤ minute ∧ minute ≤ 59)
  · obtain ⟨⟨a1, a2⟩, ⟨b1, b2⟩, c1, c2⟩ := h
    simp only [a1, a2, b1, b2, c1, c2, decide_true, Bool.and_self, Bool.not_true, Bool.or_self, Bool.false_eq_true, if_false]
    have w1 : IntKind.i64.wrap (hour * 60) = hour * 60 := wrap_i64 (by omega) (by omega)
    have w2 : IntKind.i64.wrap (60 * hour) = hour * 60 := by rw [wrap_i64 (by omega) (by omega)]; omega
    have w3 : IntKind.i64.wrap (hour * 60 + minute) = hour * 60 + minute := wrap_i64 (by omega) (by omega)
    have w4 : IntKind.i64.wrap ((hour * 60 + minute) * 10000) = (hour * 60 + minute) * 10000 := wrap_i64 (by omega) (by omega)
    have w5 : IntKind.i64.wrap (day * 10000) = day * 10000 := wrap_i64 (by omega) (by omega)
    rw [w1, w2, w3, w4, w5]
    generalize hm : hour * 60 + minute = m
    have m0 : 0 ≤ m ∧ m ≤ 1439 := by omega
    have hc : impl_ceilDiv (m * 10000) 1440 = some ((m * 10000 + 1439) / 1440) := by
      unfold impl_ceilDiv
      rw [wrap_i64 (n := 0 - m * 10000) (by omega) (by omega), floorDiv_is (by omega) (by omega) (by omega)]
      simp only [Option.bind_some]
      rw [wrap_i64 (by omega) (by omega)]
      congr 1; omega
    rw [hc, wrap_i64 (n := m * 10000 + 1439) (by omega) (by omega), td (show 0 ≤ m * 10000 + 1439 by omega), wrap_i64 (n := (m * 10000 + 1439) / 1440) (by omega) (by omega)]
    simp only [Option.bind_some]
    rw [wrap_i64 (n := day * 10000 + (m * 10000 + 1439) / 1440) (by omega) (by omega), nz_of (by decide), ck_true, l03Time_is]
    simp only [Option.bind_some]
    have hcl : clockP day hour minute = day * 10000 + (m * 10000 + 1439) / 1440 := by unfold clockP; rw [hm]
    rw [← hcl]
    have hp : 0 ≤ clockP day hour minute := by rw [hcl]; omega
    by_cases ht : 10000000 < clockP day hour minute
    · have : timeOk (clockP day hour minute) = false := by
        cases hv : timeOk (clockP day hour minute) with
        | false => rfl
        | true => have := (timeOk_iff.1 hv).2; omega
      simp only [ht, decide_true, if_true, this, Bool.not_false]
      exact ⟨_, _, rfl, rfl, fun c => absurd c (by decide)⟩
    · have : timeOk (clockP day hour minute) = true := timeOk_iff.2 ⟨hp, by omega⟩
      simp only [ht, decide_false, Bool.false_eq_true, if_false, this, Bool.not_true]
      exact ⟨_, _, rfl, rfl, fun _ => ⟨trivial, trivial, trivial, trivial, trivial, trivial, rfl, this⟩⟩
  · have hb : ((!(decide (0 ≤ day) && decide (day ≤ 100000))) || (!(decide (0 ≤ hour) && decide (hour ≤ 23))) || (!(decide (0 ≤ minute) && decide (minute ≤ 59)))) = true := by
      cases hv : ((!(decide (0 ≤ day) && decide (day ≤ 100000))) || (!(decide (0 ≤ hour) && decide (hour ≤ 23))) || (!(decide (0 ≤ minute) && decide (minute ≤ 59)))) with
      | true => rfl
      | false => exact absurd (by simp at hv; omega) h
    rw [hb]
    exact ⟨_, _, rfl, rfl, fun c => absurd c (by decide)⟩

theorem ClockOf_same : impl_ClockOf = spec_ClockOf := id rfl
theorem DayOf_same : impl_DayOf = spec_DayOf := id rfl

theorem ClockOf_is {t : Int} (h : timeOk t = true) : impl_ClockOf t = some (t % 10000 * 1440 / 10000 / 60, t % 10000 * 1440 / 10000 % 60, 0) := by
  obtain ⟨h0, h1⟩ := timeOk_iff.1 h
  unfold impl_ClockOf
  rw [impl_ValidTime_is, h]
  simp only [Option.bind_some, Bool.not_true, Bool.false_eq_true, if_false, nz_of (show (10000 : Int) ≠ 0 by decide), nz_of (show (60 : Int) ≠ 0 by decide), ck_true, tm h0]
  have hq : 0 ≤ t % 10000 ∧ t % 10000 < 10000 := by omega
  generalize t % 10000 = q at *
  rw [wrap_i64 (n := q * 1440) (by omega) (by omega), td (show 0 ≤ q * 1440 by omega), wrap_i64 (n := q * 1440 / 10000) (by omega) (by omega), td (show 0 ≤ q * 1440 / 10000 by omega), tm (show 0 ≤ q * 1440 / 10000 by omega), wrap_i64 (by omega) (by omega)]

theorem DayOf_is {t : Int} (h : timeOk t = true) : impl_DayOf t = some (t / 10000, 0) := by
  obtain ⟨h0, h1⟩ := timeOk_iff.1 h
  unfold impl_DayOf
  rw [impl_ValidTime_is, h]
  simp only [Option.bind_some, Bool.not_true, Bool.false_eq_true, if_false, nz_of (show (10000 : Int) ≠ 0 by decide), ck_true, td h0]
  rw [wrap_i64 (by omega) (by omega)]

/-! ### Fractions -/

theorem gcd_loop : ∀ (n : Nat) (a b : Int), b.natAbs ≤ n → a.natAbs ≤ 1000000000000000000 → b.natAbs ≤ 1000000000000000000 → ∃ g, whileE impl_gcd_l1 (a, b) = some g ∧ g.natAbs = Int.gcd a b ∧ (0 ≤ a → 0 ≤ b → 0 ≤ g)
  | 0, a, b, h, ha, hb => by
    have : b = 0 := by omega
    subst this
    exact ⟨a, whileE_done (by simp [impl_gcd_l1]), by simp, fun h _ => h⟩
  | n + 1, a, b, h, ha, hb => by
    by_cases h0 : b = 0
    · subst h0
      exact ⟨a, whileE_done (by simp [impl_gcd_l1]), by simp, fun h _ => h⟩
    · have hr : (a.tmod b).natAbs < b.natAbs := by
        rw [Int.natAbs_tmod]; exact Nat.mod_lt _ (by omega)
      obtain ⟨g, e, q, p⟩ := gcd_loop n b (a.tmod b) (by omega) hb (by omega)
      refine ⟨g, ?_, ?_, ?_⟩
      · rw [whileE_next (s' := (b, a.tmod b)) (by
          have : (b == 0) = false := by simpa using h0
          simp only [impl_gcd_l1, this, Bool.not_false, if_true, nz_of h0, ck_true])]
        exact e
      · rw [q]
        unfold Int.gcd
        rw [Int.natAbs_tmod]
        rw [Nat.gcd_comm a.natAbs, Nat.gcd_rec b.natAbs a.natAbs, Nat.gcd_comm]
      · intro h1 h2
        refine p h2 ?_
        rw [tm h1]; exact Int.emod_nonneg _ h0

theorem hours_lowest {n : Int} (h : n.natAbs ≤ 240000000) : ∃ f, impl_lowest n 10000 = some f ∧ spec_l02Make n 10000 = some f ∧ f = ⟨n.tdiv (Int.gcd n 10000), (10000 : Int).tdiv (Int.gcd n 10000)⟩ := by
  have hg1 : (Int.gcd n 10000) ≠ 0 := by
    intro c
    have := Int.gcd_eq_zero_iff.1 c
    omega
  have hg2 : Int.gcd n 10000 ≤ 10000 := by
    have : Int.gcd n 10000 ∣ 10000 := by
      have := Int.gcd_dvd_natAbs_right n 10000
      simpa using this
    exact Nat.le_of_dvd (by omega) this
  have hd1 : (n.tdiv (Int.gcd n 10000)).natAbs ≤ 240000000 := by
    rw [Int.natAbs_tdiv]; exact Nat.le_trans (Nat.div_le_self _ _) h
  have hd2 : ((10000 : Int).tdiv (Int.gcd n 10000)).natAbs ≤ 10000 := by
    rw [Int.natAbs_tdiv]; exact Nat.le_trans (Nat.div_le_self _ _) (by decide)
  refine ⟨_, ?_, ?_, rfl⟩
  · unfold impl_lowest impl_gcd
    obtain ⟨g, e, q, _⟩ := gcd_loop 10000 n 10000 (by decide) (by omega) (by decide)
    rw [e]
    have hab : impl_abs g = some (Int.gcd n 10000 : Int) := by
      unfold impl_abs
      by_cases c : g < 0
      · simp only [c, decide_true, if_true]
        rw [wrap_i64 (by omega) (by omega)]
        congr 1; omega
      · simp only [c, decide_false, Bool.false_eq_true, if_false]
        congr 1; omega
    simp only [Option.bind_some, hab]
    have : ¬ (10000 : Int) < 0 := by decide
    simp only [this, decide_false, Bool.false_eq_true, if_false]
    rw [nz_of (by omega), ck_true, wrap_i64 (by omega) (by omega), wrap_i64 (by omega) (by omega)]
  · unfold spec_l02Make spec_l02Gcd
    have hs : spec_l02Size n = some (n.natAbs : Int) := by
      unfold spec_l02Size
      by_cases c : n < 0
      · simp only [c, decide_true, if_true]
        rw [wrap_i64 (by omega) (by omega)]
        congr 1; omega
      · simp only [c, decide_false, Bool.false_eq_true, if_false]
        congr 1; omega
    have hl : spec_l02Gcd_l1 = impl_gcd_l1 := id rfl
    rw [hs, Option.bind_some, hl]
    obtain ⟨g, e, q, p⟩ := gcd_loop 10000 (n.natAbs : Int) 10000 (by decide) (by omega) (by decide)
    have hp := p (by omega) (by decide)
    have hgg : g = (Int.gcd n 10000 : Int) := by
      have : Int.gcd (n.natAbs : Int) 10000 = Int.gcd n 10000 := by unfold Int.gcd; simp
      omega
    rw [e, hgg]
    simp only [Option.bind_some]
    rw [nz_of (by omega), ck_true, wrap_i64 (by omega) (by omega), wrap_i64 (by omega) (by omega)]

theorem Hours_same (a b : Int) : ∃ f g e, impl_HoursBetween a b = some (f, e) ∧ spec_HoursBetween a b = some (f, e) ∧ impl_HoursBetween b a = some (g, e) ∧ (e = 0 → f.Num = IntKind.i64.wrap (0 - g.Num) ∧ f.Den = g.Den) := by
  unfold impl_HoursBetween spec_HoursBetween
  simp only [impl_ValidTime_is, l03Time_is, Option.bind_some, Option.isSome_some, Option.getD_some, Bool.or_true, ck_true]
  by_cases h : timeOk a = true ∧ timeOk b = true
  · obtain ⟨ha, hb⟩ := h
    have a1 := timeOk_iff.1 ha
    have b1 := timeOk_iff.1 hb
    simp only [ha, hb, Bool.not_true, Bool.or_self, Bool.false_eq_true, if_false]
    rw [wrap_i64 (n := b - a) (by omega) (by omega), wrap_i64 (n := a - b) (by omega) (by omega), wrap_i64 (n := 24 * (b - a)) (by omega) (by omega), wrap_i64 (n := 24 * (a - b)) (by omega) (by omega)]
    obtain ⟨f, f1, f2, f3⟩ := hours_lowest (n := 24 * (b - a)) (by omega)
    obtain ⟨g, g1, _, g3⟩ := hours_lowest (n := 24 * (a - b)) (by omega)
    refine ⟨f, g, 0, by rw [f1]; rfl, by rw [f2]; rfl, by rw [g1]; rfl, fun _ => ?_⟩
    have hn : 24 * (a - b) = -(24 * (b - a)) := by omega
    have hgc : Int.gcd (24 * (a - b)) 10000 = Int.gcd (24 * (b - a)) 10000 := by rw [hn]; exact Int.neg_gcd
    rw [f3, g3, hgc, hn]
    refine ⟨?_, rfl⟩
    show _ = IntKind.i64.wrap (0 - (-(24 * (b - a))).tdiv _)
    rw [Int.neg_tdiv]
    have : ((24 * (b - a)).tdiv (Int.gcd (24 * (b - a)) 10000 : Int)).natAbs ≤ 240000000 := by
      rw [Int.natAbs_tdiv]; exact Nat.le_trans (Nat.div_le_self _ _) (by omega)
    rw [wrap_i64 (by omega) (by omega)]
    show (24 * (b - a)).tdiv _ = _
    omega
  · have h1 : ((!timeOk a) || (!timeOk b)) = true := by
      cases ha : timeOk a <;> cases hb : timeOk b <;> simp_all
    have h2 : ((!timeOk b) || (!timeOk a)) = true := by rw [Bool.or_comm]; exact h1
    rw [h1, h2]
    exact ⟨⟨0, 0⟩, ⟨0, 0⟩, 2, rfl, rfl, rfl, fun c => absurd c (by decide)⟩

/-! ### Texts of times -/

def textT (t : Int) : List UInt8 := (Lib.decDigits (t / 10000).toNat ++ [46]) ++ d4 (t % 10000).toNat

theorem impl_TimeText_is (t : Int) : impl_TimeText t = some (if timeOk t = true then textT t else []) := by
  unfold impl_TimeText
  rw [impl_ValidTime_is, Option.bind_some]
  cases hv : timeOk t
  · simp
  · obtain ⟨h0, h1⟩ := timeOk_iff.1 hv
    have e1 : t / 10000 = (((t / 10000).toNat : Nat) : Int) := by omega
    have e2 : t % 10000 = (((t % 10000).toNat : Nat) : Int) := by omega
    have p2 := padded4 (n := (t % 10000).toNat) (by omega)
    rw [← e2] at p2
    have p1 : impl_Decimal (t / 10000) = some (Lib.decDigits (t / 10000).toNat) := by
      rw [Decimal_is ⟨by omega, by omega⟩, ← itoa_nat, ← e1]
    have hl := decDigits_len (u := (t / 10000).toNat) (by omega)
    simp only [Bool.not_true, Bool.false_eq_true, if_false, nz_of (show (10000 : Int) ≠ 0 by decide), ck_true, td h0, tm h0]
    rw [wrap_i64 (by omega) (by omega), p1, p2]
    simp only [Option.bind_some]
    rw [catOk_of (by simp; omega), ck_true, catOk_of (by simp [d4]; omega), ck_true]
    rfl

theorem spec_TimeText_is (t : Int) : spec_TimeText t = some (if timeOk t = true then textT t else []) := by
  unfold spec_TimeText
  rw [l03Time_is, Option.bind_some]
  cases hv : timeOk t
  · simp
  · obtain ⟨h0, h1⟩ := timeOk_iff.1 hv
    have e1 : t / 10000 = (((t / 10000).toNat : Nat) : Int) := by omega
    have e2 : t % 10000 = (((t % 10000).toNat : Nat) : Int) := by omega
    have p2 := l03Four_is (n := (t % 10000).toNat) (by omega)
    rw [← e2] at p2
    have p1 : spec_l01Dec (t / 10000) = some (Lib.decDigits (t / 10000).toNat) := by
      rw [l01Dec_is ⟨by omega, by omega⟩, ← itoa_nat, ← e1]
    have hl := decDigits_len (u := (t / 10000).toNat) (by omega)
    simp only [Bool.not_true, Bool.false_eq_true, if_false, nz_of (show (10000 : Int) ≠ 0 by decide), ck_true, td h0, tm h0]
    rw [wrap_i64 (by omega) (by omega), p1, p2]
    simp only [Option.bind_some]
    rw [catOk_of (by simp; omega), ck_true, catOk_of (by simp [d4]; omega), ck_true]
    rfl

theorem textT_len (t : Int) (h : timeOk t = true) : (textT t).length ≤ 30 := by
  obtain ⟨h0, h1⟩ := timeOk_iff.1 h
  have hl := decDigits_len (u := (t / 10000).toNat) (by omega)
  simp [textT, d4]; omega

theorem len4 {s : List UInt8} (h : s.length = 4) : ∃ a b c d, s = [a, b, c, d] := by
  match s, h with
  | [a, b, c, d], _ => exact ⟨a, b, c, d, rfl⟩

theorem d4_dig {n : Nat} (h : n ≤ 9999) : (d4 n).all dig = true ∧ valF 0 (d4 n) = n := by
  obtain ⟨x1, y1⟩ := dig_dg (n := n / 1000) (by omega)
  obtain ⟨x2, y2⟩ := dig_dg (n := n / 100 % 10) (by omega)
  obtain ⟨x3, y3⟩ := dig_dg (n := n / 10 % 10) (by omega)
  obtain ⟨x4, y4⟩ := dig_dg (n := n % 10) (by omega)
  refine ⟨by simp [d4, x1, x2, x3, x4], ?_⟩
  unfold d4
  rw [val4, y1, y2, y3, y4]; omega

theorem d4_of {a b c d : UInt8} (h : [a, b, c, d].all dig = true) : d4 (valF 0 [a, b, c, d]) = [a, b, c, d] ∧ valF 0 [a, b, c, d] ≤ 9999 := by
  simp only [List.all_cons, List.all_nil, Bool.and_true, Bool.and_eq_true] at h
  obtain ⟨x1, x2, x3, x4⟩ := h
  have y1 := dig_iff.1 x1
  have y2 := dig_iff.1 x2
  have y3 := dig_iff.1 x3
  have y4 := dig_iff.1 x4
  rw [val4]
  refine ⟨?_, by omega⟩
  unfold d4
  rw [dg_dig x1 (by omega), dg_dig x2 (by omega), dg_dig x3 (by omega), dg_dig x4 (by omega)]

theorem dot_split {a b x y : List UInt8} {c : UInt8} (ha : c ∉ a) (hx : c ∉ x) (h : (a ++ [c]) ++ b = (x ++ [c]) ++ y) : a = x ∧ b = y := by
  induction a generalizing x with
  | nil =>
    cases x with
    | nil => simpa using h
    | cons d r =>
      simp only [List.nil_append, List.cons_append, List.cons.injEq] at h
      exact absurd (by simp [h.1]) hx
  | cons d r ih =>
    cases x with
    | nil =>
      simp only [List.nil_append, List.cons_append, List.cons.injEq] at h
      exact absurd (by simp [h.1]) ha
    | cons e q =>
      simp only [List.cons_append, List.cons.injEq] at h
      obtain ⟨rfl, h⟩ := h
      obtain ⟨rfl, rfl⟩ := ih (x := q) (fun c => ha (by simp [c])) (fun c => hx (by simp [c])) (by simpa using h)
      exact ⟨rfl, rfl⟩

theorem digs_free {l : List UInt8} (h : l.all dig = true) : (46 : UInt8) ∉ l := fun hm => by
  have := (List.all_eq_true.1 h) 46 hm
  exact absurd this (by decide)

theorem ReadTime_same {s : List UInt8} (hl : s.length ≤ 1048576) : ∃ y, impl_ReadTime s = some y ∧ spec_ReadTime s = some y ∧ (∀ t, timeOk t = true → s = textT t → y = (t, true)) ∧ (s = [] → y.2 = false) := by
  unfold impl_ReadTime spec_ReadTime
  rw [hCut_one (by omega), l01Split_is 46 hl]
  simp only [Option.bind_some]
  by_cases hd : (46 : UInt8) ∈ s
  · obtain ⟨a, b, rfl, ha⟩ : ∃ a b, s = a ++ 46 :: b ∧ (46 : UInt8) ∉ a := by
      rcases idx_cases 46 s with ⟨_, c⟩ | ⟨a, b, c, d, _⟩
      · exact absurd hd c
      · exact ⟨a, b, c, d⟩
    have hla : a.length ≤ 1048576 := by simp at hl; omega
    rw [cut_yes ha]
    simp only
    rw [hRdDec_eq hla]
    have hsp : splitOn 46 (a ++ 46 :: b) = a :: splitOn 46 b := by
      unfold splitOn; rw [splitAcc_app ha]; rfl
    rw [hsp]
    simp only [Option.bind_some, in_is, l00In_is, Option.isSome_some, Option.getD_some, Bool.or_true, ck_true]
    have hs0 : a ++ 46 :: b = (a ++ [46]) ++ b := by simp
    -- what both accept
    by_cases hb4 : b.length = 4
    · obtain ⟨b0, b1, b2, b3, rfl⟩ := len4 hb4
      by_cases hg : [b0, b1, b2, b3].all dig = true
      · obtain ⟨g1, g2⟩ := d4_of hg
        have hsb : splitOn 46 [b0, b1, b2, b3] = [[b0, b1, b2, b3]] := splitAcc_no (digs_free hg)
        rw [hsb]
        have hk : (([a, [b0, b1, b2, b3]].length : Int) == 2) = true := rfl
        have hk2 : ((([a, [b0, b1, b2, b3]].getD 1 default).length : Int) == 4) = true := rfl
        have hk3 : ixOk 1 [a, [b0, b1, b2, b3]].length = true := rfl
        have hk4 : ixOk 0 [a, [b0, b1, b2, b3]].length = true := rfl
        have hk5 : (([b0, b1, b2, b3] : List UInt8).length : Int) = 4 := rfl
        have hk6 : [a, [b0, b1, b2, b3]].getD 0 default = a := rfl
        have hk7 : [a, [b0, b1, b2, b3]].getD 1 default = [b0, b1, b2, b3] := rfl
        have c1 : cut [b0, b1, b2, b3] 0 2 = [b0, b1] := rfl
        have c2 : cut [b0, b1, b2, b3] 2 4 = [b2, b3] := rfl
        have c3 : cutOk 0 2 [b0, b1, b2, b3].length = true := rfl
        have c4 : cutOk 2 4 [b0, b1, b2, b3].length = true := rfl
        rw [hk, hk2, hk3, hk4, hk5, hk6, hk7, l01Number_is hla, l03Digits_is (by rw [hb4]; omega)]
        simp only [hg, if_true, ck_true, Option.bind_some, Bool.not_true, Bool.or_self, Bool.false_eq_true, if_false, Bool.or_false, c1, c2, c3, c4, twoDigits_is, beq_self_eq_true]
        generalize hr : rdDec a = r
        obtain ⟨n, ok⟩ := r
        simp only
        by_cases hok : ok = true ∧ 0 ≤ n ∧ n ≤ 1000
        · obtain ⟨rfl, n0, n1⟩ := hok
          have hit := (rdDec_itoa (s := a) (by rw [hr])).1
          rw [hr] at hit
          simp only at hit
          simp only [n0, n1, decide_true, Bool.and_self, Bool.not_true, Bool.or_self, Bool.false_eq_true, if_false]
          simp only [List.all_cons, List.all_nil, Bool.and_true, Bool.and_eq_true] at hg
          obtain ⟨x1, x2, x3, x4⟩ := hg
          have y1 := dig_iff.1 x1
          have y2 := dig_iff.1 x2
          have y3 := dig_iff.1 x3
          have y4 := dig_iff.1 x4
          rw [wd_dig x1, wd_dig x2, wd_dig x3, wd_dig x4]
          have e4 := val4 b0 b1 b2 b3
          generalize hv : valF 0 [b0, b1, b2, b3] = v at *
          have et : IntKind.i64.wrap (IntKind.i64.wrap (IntKind.i64.wrap (n * 10000) + IntKind.i64.wrap ((((b0.toNat - 48 : Nat) : Int) * 10 + ((b1.toNat - 48 : Nat) : Int)) * 100)) + (((b2.toNat - 48 : Nat) : Int) * 10 + ((b3.toNat - 48 : Nat) : Int))) = n * 10000 + v := by
            rw [wrap_i64 (n := n * 10000) (by omega) (by omega), wrap_i64 (n := (((b0.toNat - 48 : Nat) : Int) * 10 + ((b1.toNat - 48 : Nat) : Int)) * 100) (by omega) (by omega), wrap_i64 (n := n * 10000 + (((b0.toNat - 48 : Nat) : Int) * 10 + ((b1.toNat - 48 : Nat) : Int)) * 100) (by omega) (by omega), wrap_i64 (by omega) (by omega)]
            omega
          rw [et, wrap_i64 (n := n * 10000) (by omega) (by omega), wrap_i64 (n := n * 10000 + (v : Int)) (by omega) (by omega), impl_TimeText_is, l03Time_is]
          simp only [Option.bind_some, Option.isSome_some, Option.getD_some, Bool.or_true, ck_true]
          have ed : (n * 10000 + (v : Int)) / 10000 = n := by omega
          have em : (n * 10000 + (v : Int)) % 10000 = v := by omega
          have ei : Lib.decDigits n.toNat = a := by rw [← itoa_nat, show ((n.toNat : Nat) : Int) = n by omega, hit]
          have etx : textT (n * 10000 + (v : Int)) = a ++ 46 :: [b0, b1, b2, b3] := by
            unfold textT
            rw [ed, em, ei, Int.toNat_natCast, g1]; simp
          by_cases hv2 : timeOk (n * 10000 + (v : Int)) = true
          · rw [if_pos hv2, etx, hv2]
            refine ⟨(n * 10000 + (v : Int), true), by simp, by simp, fun t ht hs => ?_, fun h => by simp at h⟩
            have t1 := timeOk_iff.1 ht
            unfold textT at hs
            rw [hs0] at hs
            obtain ⟨q1, q2⟩ := dot_split ha (dec_free (by decide) _) hs
            have w1 := val_dec 6 (t / 10000).toNat (by omega)
            have w2 := val_dec 6 n.toNat (by omega)
            rw [ei, q1, w1] at w2
            have w3 := (d4_dig (n := (t % 10000).toNat) (by omega)).2
            rw [← q2, hv] at w3
            congr 1; omega
          · rw [if_neg hv2]
            have hv3 : timeOk (n * 10000 + (v : Int)) = false := by simpa using hv2
            refine ⟨(0, false), by simp, by simp [hv3], fun t ht hs => ?_, fun h => by simp at h⟩
            exfalso
            have t1 := timeOk_iff.1 ht
            unfold textT at hs
            rw [hs0] at hs
            obtain ⟨q1, q2⟩ := dot_split ha (dec_free (by decide) _) hs
            have w1 := val_dec 6 (t / 10000).toNat (by omega)
            have w2 := val_dec 6 n.toNat (by omega)
            rw [ei, q1, w1] at w2
            have w3 := (d4_dig (n := (t % 10000).toNat) (by omega)).2
            rw [← q2, hv] at w3
            exact hv2 (timeOk_iff.2 ⟨by omega, by omega⟩)
        · have hb1 : ((!ok) || (!(decide (0 ≤ n) && decide (n ≤ 1000)))) = true := by
            cases ok
            · rfl
            · cases h3 : (decide (0 ≤ n) && decide (n ≤ 1000)) with
              | false => rfl
              | true => exact absurd (by simpa using h3) (fun c => hok ⟨rfl, c⟩)
          rw [hb1]
          refine ⟨(0, false), by simp, ?_, fun t ht hs => ?_, fun h => by simp at h⟩
          · cases ok
            · simp [ck_true]
            · have : (decide (0 ≤ n) && decide (n ≤ 1000)) = false := by
                revert hb1
                cases (decide (0 ≤ n) && decide (n ≤ 1000)) <;> simp
              simp [this, ck_true]
          · exfalso
            have t1 := timeOk_iff.1 ht
            unfold textT at hs
            rw [hs0] at hs
            obtain ⟨q1, q2⟩ := dot_split ha (dec_free (by decide) _) hs
            have := rdDec_small (n := ((t / 10000).toNat : Int)) (by omega) (by omega)
            rw [itoa_nat, ← q1, hr] at this
            simp only [Prod.mk.injEq] at this
            exact hok ⟨this.2, by omega, by omega⟩
      · have hno : ∀ t, timeOk t = true → a ++ 46 :: [b0, b1, b2, b3] = textT t → False := by
          intro t ht hs
          have t1 := timeOk_iff.1 ht
          unfold textT at hs
          rw [hs0] at hs
          obtain ⟨q1, q2⟩ := dot_split ha (dec_free (by decide) _) hs
          rw [q2] at hg
          exact hg (d4_dig (by omega)).1
        refine ⟨(0, false), ?_, ?_, fun t ht hs => (hno t ht hs).elim, fun _ => rfl⟩
        · split
          · rfl
          · have c1 : cut [b0, b1, b2, b3] 0 2 = [b0, b1] := rfl
            have c2 : cut [b0, b1, b2, b3] 2 4 = [b2, b3] := rfl
            have c3 : cutOk 0 2 [b0, b1, b2, b3].length = true := rfl
            have c4 : cutOk 2 4 [b0, b1, b2, b3].length = true := rfl
            have hk5 : (([b0, b1, b2, b3] : List UInt8).length : Int) = 4 := rfl
            rw [hk5]
            simp only [c1, c2, c3, c4, twoDigits_is, ck_true, Option.bind_some, impl_TimeText_is]
            generalize hT : IntKind.i64.wrap (IntKind.i64.wrap (IntKind.i64.wrap ((rdDec a).1 * 10000) + IntKind.i64.wrap ((wd b0 * 10 + wd b1) * 100)) + (wd b2 * 10 + wd b3)) = T
            by_cases hv : timeOk T = true
            · rw [if_pos hv, if_pos]
              have : ¬ textT T = a ++ 46 :: [b0, b1, b2, b3] := fun c => hno T hv c.symm
              simpa using this
            · rw [if_neg hv, if_pos]
              simp
        · by_cases h46 : (46 : UInt8) ∈ [b0, b1, b2, b3]
          · obtain ⟨x, y, hxy, hx⟩ : ∃ x y, [b0, b1, b2, b3] = x ++ 46 :: y ∧ (46 : UInt8) ∉ x := by
              rcases idx_cases 46 [b0, b1, b2, b3] with ⟨_, c⟩ | ⟨x, y, c, d, _⟩
              · exact absurd h46 c
              · exact ⟨x, y, c, d⟩
            have hsb : splitOn 46 [b0, b1, b2, b3] = x :: splitOn 46 y := by
              rw [hxy]; unfold splitOn; rw [splitAcc_app hx]; rfl
            have hy : splitOn 46 y ≠ [] := splitAcc_ne 46 y []
            rw [hsb]
            cases hq : splitOn 46 y with
            | nil => exact absurd hq hy
            | cons u v =>
              have : (((a :: x :: u :: v).length : Int) == 2) = false := by rw [beq_eq_false_iff_ne]; simp; omega
              rw [this]; simp [ck_true]
          · have hsb : splitOn 46 [b0, b1, b2, b3] = [[b0, b1, b2, b3]] := splitAcc_no h46
            rw [hsb]
            have hk : (([a, [b0, b1, b2, b3]].length : Int) == 2) = true := rfl
            have hk2 : ((([a, [b0, b1, b2, b3]].getD 1 default).length : Int) == 4) = true := rfl
            have hk3 : ixOk 1 [a, [b0, b1, b2, b3]].length = true := rfl
            have hk4 : ixOk 0 [a, [b0, b1, b2, b3]].length = true := rfl
            have hk6 : [a, [b0, b1, b2, b3]].getD 0 default = a := rfl
            have hk7 : [a, [b0, b1, b2, b3]].getD 1 default = [b0, b1, b2, b3] := rfl
            rw [hk, hk2, hk3, hk4, hk6, hk7, l01Number_is hla, l03Digits_is (by rw [hb4]; omega)]
            simp only [hg, Bool.false_eq_true, if_false, ck_true, Option.bind_some, Bool.not_true, Bool.or_self, Bool.not_false, Bool.or_true, Bool.true_or, if_true]
    · have hno : ∀ t, timeOk t = true → a ++ 46 :: b = textT t → False := by
        intro t ht hs
        unfold textT at hs
        rw [hs0] at hs
        obtain ⟨q1, q2⟩ := dot_split ha (dec_free (by decide) _) hs
        rw [q2] at hb4
        exact hb4 rfl
      have hbn : ((b.length : Int) == 4) = false := by rw [beq_eq_false_iff_ne]; omega
      refine ⟨(0, false), ?_, ?_, fun t ht hs => (hno t ht hs).elim, fun _ => rfl⟩
      · rw [hbn]; simp
      · by_cases h46 : (46 : UInt8) ∈ b
        · obtain ⟨x, y, hxy, hx⟩ : ∃ x y, b = x ++ 46 :: y ∧ (46 : UInt8) ∉ x := by
            rcases idx_cases 46 b with ⟨_, c⟩ | ⟨x, y, c, d, _⟩
            · exact absurd h46 c
            · exact ⟨x, y, c, d⟩
          have hsb : splitOn 46 b = x :: splitOn 46 y := by
            rw [hxy]; unfold splitOn; rw [splitAcc_app hx]; rfl
          have hy : splitOn 46 y ≠ [] := splitAcc_ne 46 y []
          rw [hsb]
          cases hq : splitOn 46 y with
          | nil => exact absurd hq hy
          | cons u v =>
            have : (((a :: x :: u :: v).length : Int) == 2) = false := by rw [beq_eq_false_iff_ne]; simp; omega
            rw [this]; simp [ck_true]
        · have hsb : splitOn 46 b = [b] := splitAcc_no h46
          rw [hsb]
          have hk : (([a, b].length : Int) == 2) = true := rfl
          have hk3 : ixOk 1 [a, b].length = true := rfl
          have hk7 : [a, b].getD 1 default = b := rfl
          rw [hk, hk3, hk7, hbn]
          simp [ck_true]
  · have hl2 : s.length ≤ 1048576 := hl
    rw [cut_no hd]
    have hsp : splitOn 46 s = [s] := splitAcc_no hd
    rw [hsp, hRdDec_eq hl2]
    simp only [Option.bind_some, in_is, l00In_is, Option.isSome_some, Option.getD_some, Bool.or_true, ck_true]
    refine ⟨(0, false), ?_, ?_, fun t ht hs => ?_, fun _ => rfl⟩
    · have : ((([] : List UInt8).length : Int) == 4) = false := rfl
      rw [this]; simp
    · have : (([s].length : Int) == 2) = false := rfl
      rw [this]; simp [ck_true]
    · exact (hd (by rw [hs]; simp [textT])).elim

end Go.Proofs.YtbcgbmckojlpjaaDoor
