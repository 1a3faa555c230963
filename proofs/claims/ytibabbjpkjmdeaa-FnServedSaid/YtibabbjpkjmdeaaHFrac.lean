/- What typed forms say: fractions in lowest terms. No condition. -/
import Derived.Test.YtibabbjpkjmdeaaSVL
namespace Go.Proofs.Ytibabbjpkjmdeaa
open Go Go.RowKit
set_option linter.unusedSimpArgs false
set_option linter.unusedVariables false

/-! ### Greatest common divisors -/

theorem gcd_step : impl_gcd_l1 = spec_l02Gcd_l1 := id rfl

theorem gcd_loop {a b : Int} (ha : 0 ≤ a) (hb : 1 ≤ b) : ∃ g, whileE spec_l02Gcd_l1 (a, b) = some g ∧ 1 ≤ g ∧ g ∣ a ∧ g ∣ b := by
  obtain ⟨g, h1, h2⟩ := while_post (step := spec_l02Gcd_l1) (fun s => 0 ≤ s.1 ∧ 0 ≤ s.2 ∧ (1 ≤ s.1 ∨ 1 ≤ s.2) ∧ ∀ d, d ∣ s.1 → d ∣ s.2 → d ∣ a ∧ d ∣ b) (fun g => 1 ≤ g ∧ g ∣ a ∧ g ∣ b) (fun s => s.2.toNat) (by
    rintro ⟨x, y⟩ ⟨h1, h2, h3, h4⟩
    simp only at h1 h2 h3 h4
    by_cases c : y = 0
    · right
      subst c
      exact ⟨x, by simp [spec_l02Gcd_l1], by omega, h4 x (Int.dvd_refl _) (Int.dvd_zero _)⟩
    · left
      have e : (y == 0) = false := by simpa using c
      simp only [spec_l02Gcd_l1, e, Bool.not_false, if_true, nz_of c, ck_true]
      have t := Int.tmod_lt_of_pos x (show 0 < y by omega)
      have t0 := Int.tmod_nonneg y h1
      refine ⟨_, rfl, ⟨h2, t0, .inl (by show 1 ≤ y; omega), fun d d1 d2 => h4 d ?_ d1⟩, by show (x.tmod y).toNat < y.toNat; omega⟩
      rw [← Int.mul_tdiv_add_tmod x y]
      exact Int.dvd_add (Int.dvd_mul_of_dvd_left d1) d2) (s := (a, b)) ⟨ha, by show 0 ≤ b; omega, .inr hb, fun d d1 d2 => ⟨d1, d2⟩⟩
  exact ⟨g, h1, h2⟩

noncomputable def gcdN (a b : Int) : Int := Classical.epsilon fun g => whileE spec_l02Gcd_l1 (a, b) = some g
theorem gcdN_all {a b : Int} (ha : 0 ≤ a) (hb : 1 ≤ b) : whileE spec_l02Gcd_l1 (a, b) = some (gcdN a b) ∧ 1 ≤ gcdN a b ∧ gcdN a b ∣ a ∧ gcdN a b ∣ b := by
  obtain ⟨g, h1, h2⟩ := gcd_loop ha hb
  have h : whileE spec_l02Gcd_l1 (a, b) = some (gcdN a b) := Classical.epsilon_spec (p := fun g => whileE spec_l02Gcd_l1 (a, b) = some g) ⟨g, h1⟩
  refine ⟨h, ?_⟩
  rw [h1] at h
  cases h; exact h2
theorem gcdN_is {a b : Int} (ha : 0 ≤ a) (hb : 1 ≤ b) : whileE spec_l02Gcd_l1 (a, b) = some (gcdN a b) ∧ 1 ≤ gcdN a b := ⟨(gcdN_all ha hb).1, (gcdN_all ha hb).2.1⟩

noncomputable def fracN (a b : Int) : Fraction := ⟨a.tdiv (gcdN a b), b.tdiv (gcdN a b)⟩

theorem tdiv_in {a g : Int} (ha : 0 ≤ a) (h1 : a ≤ 1000000) (hg : 1 ≤ g) : 0 ≤ a.tdiv g ∧ a.tdiv g ≤ 1000000 := by
  rw [Int.tdiv_eq_ediv_of_nonneg ha]
  refine ⟨Int.ediv_nonneg ha (by omega), Int.le_trans (Int.ediv_le_self _ ha) h1⟩

theorem make_is {a b : Int} (ha : 0 ≤ a) (h1 : a ≤ 1000000) (hb : 1 ≤ b) (h2 : b ≤ 1000000) : spec_l02Make a b = some (fracN a b) := by
  obtain ⟨g1, g2⟩ := gcdN_is ha hb
  obtain ⟨p1, p2⟩ := tdiv_in ha h1 g2
  obtain ⟨q1, q2⟩ := tdiv_in (show 0 ≤ b by omega) h2 g2
  have hs : spec_l02Size a = some a := by
    unfold spec_l02Size
    have : ¬ a < 0 := by omega
    simp [this]
  unfold spec_l02Make spec_l02Gcd
  rw [hs]
  simp only [Option.bind_some, g1]
  rw [nz_of (by omega), ck_true, wrap_i64 (by omega) (by omega), wrap_i64 (by omega) (by omega)]
  rfl

theorem lowest_is {a b : Int} (ha : 0 ≤ a) (h1 : a ≤ 1000000) (hb : 1 ≤ b) (h2 : b ≤ 1000000) : impl_lowest a b = some (fracN a b) := by
  obtain ⟨g1, g2⟩ := gcdN_is ha hb
  obtain ⟨p1, p2⟩ := tdiv_in ha h1 g2
  obtain ⟨q1, q2⟩ := tdiv_in (show 0 ≤ b by omega) h2 g2
  have c1 : ¬ gcdN a b < 0 := by omega
  have c2 : ¬ b < 0 := by omega
  unfold impl_lowest impl_gcd impl_abs
  rw [gcd_step, g1]
  simp only [Option.bind_some, c1, c2, decide_false, Bool.false_eq_true, if_false]
  rw [nz_of (by omega), ck_true, wrap_i64 (by omega) (by omega), wrap_i64 (by omega) (by omega)]
  rfl

/-! ### Counting -/

theorem fracN_in {a b : Int} (ha : 0 ≤ a) (hab : a ≤ b) (hb : 1 ≤ b) : 0 ≤ (fracN a b).Num ∧ (fracN a b).Num ≤ (fracN a b).Den := by
  obtain ⟨g1, g2⟩ := gcdN_is ha hb
  show 0 ≤ a.tdiv (gcdN a b) ∧ a.tdiv (gcdN a b) ≤ b.tdiv (gcdN a b)
  rw [Int.tdiv_eq_ediv_of_nonneg ha, Int.tdiv_eq_ediv_of_nonneg (by omega)]
  exact ⟨Int.ediv_nonneg ha (by omega), Int.ediv_le_ediv (by omega) hab⟩

end Go.Proofs.Ytibabbjpkjmdeaa
