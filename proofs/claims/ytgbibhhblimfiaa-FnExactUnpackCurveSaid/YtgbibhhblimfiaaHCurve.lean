/- What typed forms say: light curves and their packed forms. No condition. -/
import Derived.Test.YtgbibhhblimfiaaHNum
import Derived.Test.YtgbibhhblimfiaaHSum
namespace Go.Proofs.Ytgbibhhblimfiaa
open Go Go.RowKit
set_option linter.unusedSimpArgs false
set_option linter.unusedVariables false

def okP (c : List Point) (i : Nat) : Bool :=
  ((decide (0 ≤ (c.getD i default).Time) && decide ((c.getD i default).Time ≤ 10000000)) && (decide (-2000 ≤ (c.getD i default).Mag) && decide ((c.getD i default).Mag ≤ 20000))) &&
  !(decide (0 < i) && decide ((c.getD i default).Time ≤ (c.getD (i - 1) default).Time))
def goodP (c : List Point) : Bool := (List.range c.length).all (okP c)

theorem l06Time_is (n : Int) : spec_l06Time n = some (decide (0 ≤ n) && decide (n ≤ 10000000)) := id rfl
theorem l02Mag_is (n : Int) : spec_l02Mag n = some (decide (-2000 ≤ n) && decide (n ≤ 20000)) := id rfl
theorem ValidTime_is (n : Int) : impl_ValidTime n = some (decide (0 ≤ n) && decide (n ≤ 10000000)) := id rfl
theorem ValidMag_is (n : Int) : impl_ValidMag n = some (decide (-2000 ≤ n) && decide (n ≤ 20000)) := id rfl

theorem l08_step {c : List Point} (hl : c.length ≤ 1099511627776) {i : Nat} (hi : i < c.length) : spec_l08Ok_l1 c (i : Int) = some (if okP c i = true then .inl ((i + 1 : Nat) : Int) else .inr (.inr false)) := by
  simp only [spec_l08Ok_l1, ite_b, ixOk_nat, hi, decide_true, ck_true, Int.ofNat_lt, cond_true, Int.toNat_natCast, wrap_nat1 (show i < 9223372036854775807 by omega), l06Time_is, l02Mag_is, Option.bind_some, Option.isSome_some, Option.getD_some, Bool.or_true]
  unfold okP
  generalize (decide (0 ≤ (c.getD i default).Time) && decide ((c.getD i default).Time ≤ 10000000)) = A
  generalize (decide (-2000 ≤ (c.getD i default).Mag) && decide ((c.getD i default).Mag ≤ 20000)) = B
  by_cases h0 : 0 < i
  · have e0 : decide ((0 : Int) < (i : Int)) = true := by simpa using h0
    have e1 : decide (0 < i) = true := by simpa using h0
    have w1 : IntKind.i64.wrap ((i : Int) - 1) = ((i - 1 : Nat) : Int) := by rw [wrap_i64 (by omega) (by omega)]; omega
    have ok1 : ixOk ((i - 1 : Nat) : Int) c.length = true := by rw [ixOk_nat]; simp; omega
    simp only [e0, e1, w1, ok1, Bool.or_true, ck_true, Bool.true_and, Int.toNat_natCast]
    generalize decide ((c.getD i default).Time ≤ (c.getD (i - 1) default).Time) = D
    cases A <;> cases B <;> cases D <;> rfl
  · have e0 : decide ((0 : Int) < (i : Int)) = false := by simpa using h0
    have e1 : decide (0 < i) = false := by simpa using h0
    simp only [e0, e1, Bool.false_and, Bool.and_false, Bool.not_false, Bool.true_or, ck_true]
    cases A <;> cases B <;> rfl

theorem l08Ok_is {c : List Point} (hl : c.length ≤ 1099511627776) : spec_l08Ok c = some (goodP c && decide (c.length ≤ 100)) := by
  unfold spec_l08Ok
  rw [while_all (step := spec_l08Ok_l1 c) (okP c) c.length (goodP c) (yes := .inl ()) (no := .inr false) (by unfold goodP; simp) (fun i hi => l08_step hl hi) (by simp [spec_l08Ok_l1])]
  have e : decide ((c.length : Int) ≤ 100) = decide (c.length ≤ 100) := by rw [Bool.eq_iff_iff]; simp; omega
  simp only [Option.bind_some, ite_b]
  cases goodP c <;> simp [e]

theorem Valid_step (c : List Point) : impl_ValidCurve_l1 c c (c.length : Int) = spec_l08Ok_l1 c := by
  funext i
  simp only [impl_ValidCurve_l1, spec_l08Ok_l1, ValidTime_is, ValidMag_is, l06Time_is, l02Mag_is]

theorem ValidCurve_is {c : List Point} (hl : c.length ≤ 1099511627776) : impl_ValidCurve c = some (goodP c && decide (c.length ≤ 100)) := by
  unfold impl_ValidCurve
  by_cases h : 100 < (c.length : Int)
  · have e : decide (c.length ≤ 100) = false := by simp; omega
    simp [h, e]
  · have e : decide (c.length ≤ 100) = true := by simp; omega
    simp only [h, decide_false, Bool.false_eq_true, if_false, Valid_step]
    rw [while_all (step := spec_l08Ok_l1 c) (okP c) c.length (goodP c) (yes := .inl ()) (no := .inr false) (by unfold goodP; simp) (fun i hi => l08_step hl hi) (by simp [spec_l08Ok_l1])]
    simp only [Option.bind_some, ite_b, e]
    cases goodP c <;> rfl

theorem goodP_at {c : List Point} (h : goodP c = true) {i : Nat} (hi : i < c.length) : 0 ≤ (c.getD i default).Time ∧ (c.getD i default).Time ≤ 10000000 ∧ -2000 ≤ (c.getD i default).Mag ∧ (c.getD i default).Mag ≤ 20000 ∧ (0 < i → (c.getD (i - 1) default).Time < (c.getD i default).Time) := by
  unfold goodP at h
  have := all_range' h hi
  simp only [okP, Bool.and_eq_true, decide_eq_true_eq, Bool.not_eq_true', Bool.and_eq_false_iff, decide_eq_false_iff_not] at this
  refine ⟨this.1.1.1, this.1.1.2, this.1.2.1, this.1.2.2, fun h0 => ?_⟩
  rcases this.2 with c | c
  · exact absurd h0 c
  · omega

/-! ### Folded numbers -/

def foldN (n : Int) : Int := if n < 0 then -2 * n - 1 else 2 * n
theorem fold_is {n : Int} (h0 : -1000000000000000000 ≤ n) (h1 : n ≤ 1000000000000000000) : spec_l25Fold n = some (foldN n) ∧ impl_fold n = some (foldN n) := by
  unfold foldN
  have e1 : IntKind.i64.wrap ((-2) * n) = -2 * n := wrap_i64 (by omega) (by omega)
  have e2 : IntKind.i64.wrap (2 * n) = 2 * n := wrap_i64 (by omega) (by omega)
  by_cases h : n < 0
  · have e3 : IntKind.i64.wrap (-2 * n - 1) = -2 * n - 1 := wrap_i64 (by omega) (by omega)
    simp only [spec_l25Fold, impl_fold, h, decide_true, if_true, e1, e3, and_self]
  · simp only [spec_l25Fold, impl_fold, h, decide_false, Bool.false_eq_true, if_false, e2, and_self]
theorem foldN_in {n : Int} (h0 : -100000 ≤ n) (h1 : n ≤ 100000) : 0 ≤ foldN n ∧ foldN n ≤ 200000 := by unfold foldN; split <;> omega

/-! ### Closing -/

theorem close_is {b : List UInt8} (hl : b.length ≤ 10000000) : ∃ l, l.length ≤ b.length + 2 ∧ spec_l25Close b = some l ∧ impl_sealed b = some l := by
  obtain ⟨s, h1, h2, h3, h4⟩ := sum_is (b := b) (by omega)
  have t1 : s.tdiv 256 = s / 256 := Int.tdiv_eq_ediv_of_nonneg h2
  have t2 : s.tmod 256 = s % 256 := Int.tmod_eq_emod_of_nonneg h2
  have w1 : IntKind.i64.wrap (s / 256) = s / 256 := wrap_i64 (by omega) (by omega)
  refine ⟨b ++ [toU8 (IntKind.u8.wrap (s / 256)), toU8 (IntKind.u8.wrap (s % 256))], by simp, ?_, ?_⟩
  · unfold spec_l25Close
    simp only [h1, Option.bind_some, nz_of (show (256 : Int) ≠ 0 by decide), ck_true, t1, t2, w1]
    rw [appOk_of (by simp; omega), appOk_of (by simp; omega), ck_true, ck_true]
    simp
  · unfold impl_sealed
    simp only [h4, Option.bind_some, nz_of (show (256 : Int) ≠ 0 by decide), ck_true, t1, t2, w1]
    rw [appOk_of (by simp; omega), ck_true]

/-! ### The packed form of a curve -/

def cuInv (c : List Point) (s : List UInt8 × Int × Int × Int) : Prop :=
  ∃ i : Nat, s.2.2.2 = (i : Int) ∧ i ≤ c.length ∧ s.1.length ≤ 11 + 20 * i ∧ s.2.1 = (if i = 0 then 0 else (c.getD (i - 1) default).Time) ∧ s.2.2.1 = (if i = 0 then 0 else (c.getD (i - 1) default).Mag)

theorem cu_step {c : List Point} (hg : goodP c = true) (hl : c.length ≤ 100) {s : List UInt8 × Int × Int × Int} (h : cuInv c s) :
    (∃ r, spec_l25Curve_l1 c s = some r ∧ impl_PackCurve_l1 c (c.length : Int) s = some r ∧ ((∃ s', r = .inl s' ∧ cuInv c s' ∧ s'.2.2.2 = s.2.2.2 + 1 ∧ s.2.2.2 < c.length) ∨ ∃ o, r = .inr o ∧ o.length ≤ 2011)) := by
  obtain ⟨out, time, mag, ii⟩ := s
  obtain ⟨i, rfl, hi, ho, ht, hm⟩ := h
  simp only at ho ht hm
  by_cases hlt : i < c.length
  · obtain ⟨g1, g2, g3, g4, g5⟩ := goodP_at hg hlt
    have time0 : 0 ≤ (c.getD i default).Time - time ∧ (c.getD i default).Time - time ≤ 10000000 := by
      rw [ht]
      split
      · omega
      · obtain ⟨q1, q2, _⟩ := goodP_at hg (show i - 1 < c.length by omega)
        have := g5 (by omega); omega
    have mag0 : -100000 ≤ (c.getD i default).Mag - mag ∧ (c.getD i default).Mag - mag ≤ 100000 := by
      rw [hm]
      split
      · omega
      · obtain ⟨q1, q2, q3, q4, _⟩ := goodP_at hg (show i - 1 < c.length by omega)
        omega
    obtain ⟨l1, n1, e1, f1⟩ := number_is time0.1 (by omega)
    obtain ⟨k1, k2⟩ := foldN_in mag0.1 mag0.2
    obtain ⟨l2, n2, e2, f2⟩ := number_is k1 (by omega)
    obtain ⟨d1, d2⟩ := fold_is (n := (c.getD i default).Mag - mag) (by omega) (by omega)
    have w1 : IntKind.i64.wrap ((c.getD i default).Time - time) = (c.getD i default).Time - time := wrap_i64 (by omega) (by omega)
    have w2 : IntKind.i64.wrap ((c.getD i default).Mag - mag) = (c.getD i default).Mag - mag := wrap_i64 (by omega) (by omega)
    refine ⟨.inl (out ++ l1 ++ l2, (c.getD i default).Time, (c.getD i default).Mag, ((i + 1 : Nat) : Int)), ?_, ?_, .inl ⟨_, rfl, ⟨i + 1, rfl, by omega, by simp; omega, by simp, by simp⟩, by simp, by simpa using hlt⟩⟩
    · simp only [spec_l25Curve_l1, Int.ofNat_lt, hlt, decide_true, if_true, ixOk_nat, ck_true, Int.toNat_natCast, wrap_nat1 (show i < 9223372036854775807 by omega), w1, w2, e1, e2, d1, Option.bind_some]
      rw [appOk_of (by omega), appOk_of (by simp; omega), ck_true, ck_true]
    · simp only [impl_PackCurve_l1, Int.ofNat_lt, hlt, decide_true, if_true, ixOk_nat, ck_true, Int.toNat_natCast, wrap_nat1 (show i < 9223372036854775807 by omega), w1, w2, f1 out (by omega), f2 (out ++ l1) (by simp; omega), d2, Option.bind_some]
  · exact ⟨.inr out, by simp [spec_l25Curve_l1, hlt], by simp [impl_PackCurve_l1, hlt], .inr ⟨out, rfl, by omega⟩⟩

theorem Curve_is {c : List Point} (hl : c.length ≤ 1048576) : if (goodP c && decide (c.length ≤ 100)) = true then ∃ l, l.length ≤ 3000 ∧ spec_l25Curve c = some l ∧ impl_PackCurve c = some (l, 0) else impl_PackCurve c = some ([], 1) := by
  unfold impl_PackCurve
  rw [ValidCurve_is (by omega)]
  simp only [Option.bind_some, ite_b]
  cases hg : (goodP c && decide (c.length ≤ 100))
  · rfl
  · simp only [Bool.and_eq_true, decide_eq_true_eq] at hg
    obtain ⟨hg, hc⟩ := hg
    obtain ⟨l0, n0, e0, f0⟩ := number_is (n := (c.length : Int)) (by omega) (by omega)
    have hi0 : cuInv c ([67] ++ l0, 0, 0, 0) := ⟨0, rfl, by omega, by simp; omega, rfl, rfl⟩
    obtain ⟨y, hy, hq⟩ := while_post (step := spec_l25Curve_l1 c) (cuInv c) (fun o => o.length ≤ 2011) (fun s => c.length - s.2.2.2.toNat) (by
      intro s hs
      obtain ⟨r, h1, _, h3⟩ := cu_step hg hc hs
      obtain ⟨i, hi, _⟩ := hs
      rcases h3 with ⟨s', rfl, h4, h5, h6⟩ | ⟨o, rfl, h4⟩
      · exact .inl ⟨s', h1, h4, by rw [h5, hi]; rw [hi] at h6; omega⟩
      · exact .inr ⟨o, h1, h4⟩) hi0
    have hy2 : whileE (impl_PackCurve_l1 c (c.length : Int)) ([67] ++ l0, 0, 0, 0) = some y := by
      rw [← hy]
      refine (while_congr (cuInv c) (fun s hs => ?_) (fun s s' hs e => ?_) hi0).symm
      · obtain ⟨r, h1, h2, _⟩ := cu_step hg hc hs
        rw [h1, h2]
      · obtain ⟨r, h1, h2, h3⟩ := cu_step hg hc hs
        rw [h1] at e
        rcases h3 with ⟨s2, rfl, h4, _⟩ | ⟨o, rfl, _⟩
        · cases e; exact h4
        · cases e
    obtain ⟨l, hl2, c1, c2⟩ := close_is (b := y) (by omega)
    refine ⟨l, by omega, ?_, ?_⟩
    · unfold spec_l25Curve
      simp only [e0, Option.bind_some]
      rw [appOk_of (by simp; omega), ck_true, hy]
      simp only [Option.bind_some, c1]
    · simp only [Bool.not_true, cond_false, impl_count_impl_Point, Option.bind_some, f0 [67] (by simp), hy2, c2]

end Go.Proofs.Ytgbibhhblimfiaa
