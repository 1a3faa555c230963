/- What the helpers of the laws do. No condition. -/
import Derived.Test.YthbnoddeifedkaaAUT
import Derived.Test.YthbnoddeifedkaaEngTD
namespace Go.Proofs.Ythbnoddeifedkaa
open Go Go.RowKit
set_option linter.unusedSimpArgs false
set_option linter.unusedVariables false

theorem spec_l00In_is (n a b : Int) : spec_l00In n a b = some (decide (a ≤ n) && decide (n ≤ b)) := id rfl
theorem impl_in_is (n a b : Int) : impl_in n a b = some (decide (a ≤ n) && decide (n ≤ b)) := id rfl
theorem markText_some {k : Int} (h0 : 0 < k) (h1 : k ≤ 4503599627370496) : ∃ l, laws_markText k = some l := by
  obtain ⟨y, hy, hl⟩ := while_post (step := laws_markText_l1) (fun s => 0 ≤ s.1 ∧ s.1 + s.2.length ≤ 4503599627370496) (fun y => y.length ≤ 4503599627370496) (fun s => s.1.toNat) (by
    rintro ⟨k, out⟩ ⟨h0, h1⟩
    simp only at h0 h1
    by_cases h : 0 < k
    · left
      have t1 : k.tdiv 10 = k / 10 := Int.tdiv_eq_ediv_of_nonneg h0
      simp only [laws_markText_l1, h, decide_true, if_true, nz_of (show (10 : Int) ≠ 0 by decide), ck_true, t1]
      rw [catOk_of (by simp only [List.length_cons, List.length_nil]; omega), ck_true, wrap_i64 (n := k / 10) (by omega) (by omega)]
      refine ⟨_, rfl, ⟨by show 0 ≤ k / 10; omega, ?_⟩, by show (k / 10).toNat < k.toNat; omega⟩
      show k / 10 + ((_ ++ out).length : Int) ≤ _
      simp only [List.length_append, List.length_cons, List.length_nil]; omega
    · right
      exact ⟨out, by simp [laws_markText_l1, h], by show out.length ≤ _; omega⟩) (s := (k, [])) ⟨by show 0 ≤ k; omega, by show k + (([] : List UInt8).length : Int) ≤ _; simp; omega⟩
  refine ⟨[109] ++ y, ?_⟩
  unfold laws_markText
  have h2 : ¬ k ≤ 0 := by omega
  simp only [h2, decide_false, Bool.false_eq_true, if_false, hy, Option.bind_some]
  rw [catOk_of (by simp only [List.length_cons, List.length_nil]; omega), ck_true]
noncomputable def mt (k : Int) : List UInt8 := (laws_markText k).getD []
theorem markText_is {k : Int} (h0 : 0 < k) (h1 : k ≤ 4503599627370496) : laws_markText k = some (mt k) := by
  obtain ⟨l, hl⟩ := markText_some h0 h1
  unfold mt; rw [hl]; rfl


/-! ### Estimate -/

theorem Estimate_beq (x y : Estimate) : (((x.Time) == (y.Time)) && (((x.Star) == (y.Star)) && (((x.Observer) == (y.Observer)) && (((x.Mag) == (y.Mag)) && ((x.Fainter) == (y.Fainter)))))) = (x == y) := by
  have hd : (x == y) = decide (x = y) := by rw [Bool.eq_iff_iff]; simp
  rw [hd]
  obtain ⟨a0, a1, a2, a3, a4⟩ := x
  obtain ⟨b0, b1, b2, b3, b4⟩ := y
  rw [Bool.eq_iff_iff]
  simp [Estimate.mk.injEq]
theorem eqEstimate_is (a b : Estimate) : laws_eqEstimate a b = some (a == b) := by
  have hd : (a == b) = decide (a = b) := by rw [Bool.eq_iff_iff]; simp
  rw [hd]
  obtain ⟨a0, a1, a2, a3, a4⟩ := a
  obtain ⟨b0, b1, b2, b3, b4⟩ := b
  unfold laws_eqEstimate
  simp only [Estimate.mk.injEq]
  by_cases h0 : a0 = b0
  rotate_left
  · simp [h0]
  by_cases h1 : a1 = b1
  rotate_left
  · simp [h0, h1]
  by_cases h2 : a2 = b2
  rotate_left
  · simp [h0, h1, h2]
  by_cases h3 : a3 = b3
  rotate_left
  · simp [h0, h1, h2, h3]
  by_cases h4 : a4 = b4
  rotate_left
  · simp [h0, h1, h2, h3, h4]
  simp [h0, h1, h2, h3, h4]
theorem eqEstimateS_is {a b : List Estimate} (h : a.length ≤ 1099511627776) : laws_eqEstimateS a b = some (decide (a = b)) := by
  unfold laws_eqEstimateS
  by_cases hl : a.length = b.length
  · have h1 : ((a.length : Int) == (b.length : Int)) = true := by simp [hl]
    rw [h1]
    have := while_all (step := laws_eqEstimateS_l1 a b) (fun i => a.getD i default == b.getD i default) a.length (decide (a = b)) (yes := .inl ()) (no := .inr false)
      (by rw [decide_eq_true_eq]; exact (getD_eq_iff hl).symm)
      (fun i hi => by
        have hi2 : i < b.length := by omega
        simp only [laws_eqEstimateS_l1, ixOk_nat, hi, hi2, decide_true, ck_true, Int.ofNat_lt, if_true, Int.toNat_natCast, wrap_nat1 (show i < 9223372036854775807 by omega), eqEstimate_is, Option.bind_some]
        cases (a.getD i default == b.getD i default) <;> rfl)
      (by simp [laws_eqEstimateS_l1])
    simp only [Bool.not_true, Bool.false_eq_true, if_false, this, Option.bind_some]
    by_cases hab : a = b <;> simp [hab]
  · have h1 : ((a.length : Int) == (b.length : Int)) = false := by simp; omega
    rw [h1]
    have : a ≠ b := fun c => hl (by rw [c])
    simp [this]
theorem toEstimate_is (a : Estimate) : laws_toEstimate a = some a := id rfl
theorem toEstimateS_is {a : List Estimate} (h : a.length ≤ 1099511627776) : laws_toEstimateS a = some a := by
  unfold laws_toEstimateS
  rw [mkOk_of (by omega) (by omega) (by omega), ck_true, Int.toNat_natCast, copy_loop _ h]
  · rfl
  · intro out i ho hi
    simp only [laws_toEstimateS_l1, ixOk_nat, ho, hi, decide_true, ck_true, Int.ofNat_lt, if_true, Int.toNat_natCast, wrap_nat1 (show i < 9223372036854775807 by omega), toEstimate_is, Option.bind_some]
  · intro out; simp [laws_toEstimateS_l1]
noncomputable def mkEstimate (x : Estimate) (k : Int) : Estimate := ⟨k, mt (k + 1), mt (k + 1 + 1), k + 1 + 1 + 1, ((k + 1 + 1 + 1 + 1).tmod 3 == 0)⟩
theorem markEstimateS_step (l : List Estimate) (k : Int) (i : Nat) (hi : i < l.length) (hl2 : l.length ≤ 1099511627776) (h1 : 1 ≤ k) (h2 : k ≤ 2251799813685248) :
    laws_markEstimateS_l1 (l, k, (i : Int)) = some (.inl (l.set i (mkEstimate (l.getD i default) k), k + ((5 : Nat) : Int), ((i + 1 : Nat) : Int))) := by
  have hk1 : IntKind.i64.wrap (k + 1) = k + 1 := wrap_i64 (by omega) (by omega)
  have hk2 : IntKind.i64.wrap (k + 1 + 1) = k + 1 + 1 := wrap_i64 (by omega) (by omega)
  have hk3 : IntKind.i64.wrap (k + 1 + 1 + 1) = k + 1 + 1 + 1 := wrap_i64 (by omega) (by omega)
  have hk4 : IntKind.i64.wrap (k + 1 + 1 + 1 + 1) = k + 1 + 1 + 1 + 1 := wrap_i64 (by omega) (by omega)
  have hk5 : IntKind.i64.wrap (k + 1 + 1 + 1 + 1 + 1) = k + ((5 : Nat) : Int) := by rw [wrap_i64 (by omega) (by omega)]; omega
  have hm1 : laws_markText (k + 1) = some (mt (k + 1)) := markText_is (by omega) (by omega)
  have hm2 : laws_markText (k + 1 + 1) = some (mt (k + 1 + 1)) := markText_is (by omega) (by omega)
  simp only [laws_markEstimateS_l1, List.length_set, ixOk_nat, hi, decide_true, ck_true, Int.ofNat_lt, if_true, Int.toNat_natCast, wrap_nat1 (show i < 9223372036854775807 by omega), List.set_set, hk1, hk2, hk3, hk4, hk5, hm1, Option.bind_some, hm2, Option.bind_some, nz_of (show (3 : Int) ≠ 0 by decide), mkEstimate]
theorem markEstimateS_is {a : List Estimate} (hl : a.length ≤ 1099511627776) {k : Int} (h0 : 1 ≤ k) (h1 : k ≤ 1125899906842624) : laws_markEstimateS a k = some (k + ((5 : Nat) : Int) * a.length, markL mkEstimate 5 a k) := by
  unfold laws_markEstimateS
  rw [mark_loopK mkEstimate 5 (step := laws_markEstimateS_l1) (by omega) markEstimateS_step ?_ hl h0 h1]
  · simp [markL_len, ck_true]
  · intro l k; simp [laws_markEstimateS_l1]
theorem szEstimate_is {x : Estimate} {n : Int} (h0 : 0 ≤ n) (h1 : n ≤ 1048576) (w0 : x.Star.length ≤ maxLen) (w1 : x.Observer.length ≤ maxLen) : ∃ z, laws_szEstimate x n = some z ∧ (¬ z < 0 → z ≤ n ∧ x.Star.length ≤ 1048576 ∧ x.Observer.length ≤ 1048576) := by
  have hm : maxLen = 9223372036854775807 := by decide
  unfold laws_szEstimate
  have e0 : IntKind.i64.wrap (n - (x.Star.length : Int)) = n - (x.Star.length : Int) := wrap_i64 (by omega) (by omega)
  simp only [e0]
  by_cases c0 : n - (x.Star.length : Int) < 0
  · exact ⟨-1, by simp only [c0, decide_true, if_true], fun c => absurd (by decide) c⟩
  simp only [c0, decide_false, Bool.false_eq_true, if_false]
  have e1 : IntKind.i64.wrap (n - (x.Star.length : Int) - (x.Observer.length : Int)) = n - (x.Star.length : Int) - (x.Observer.length : Int) := wrap_i64 (by omega) (by omega)
  simp only [e1]
  by_cases c1 : n - (x.Star.length : Int) - (x.Observer.length : Int) < 0
  · exact ⟨-1, by simp only [c1, decide_true, if_true], fun c => absurd (by decide) c⟩
  simp only [c1, decide_false, Bool.false_eq_true, if_false]
  exact ⟨_, rfl, fun _ => ⟨by omega, by omega, by omega⟩⟩
theorem szEstimateS_is {a : List Estimate} {n : Int} (h0 : 0 ≤ n) (h1 : n ≤ 1048576) (hl : a.length ≤ maxLen) (hw : ∀ x ∈ a, x.Star.length ≤ maxLen ∧ x.Observer.length ≤ maxLen) : ∃ z, laws_szEstimateS a n = some z ∧ (¬ z < 0 → z ≤ n ∧ a.length + z ≤ n ∧ ∀ x ∈ a, (x).Star.length ≤ 1048576 ∧ (x).Observer.length ≤ 1048576) := by
  have hm : maxLen = 9223372036854775807 := by decide
  unfold laws_szEstimateS
  rw [wrap_i64 (by omega) (by omega)]
  by_cases h : n - (a.length : Int) < 0
  · exact ⟨-1, by simp [h], fun c => absurd (by decide) c⟩
  · obtain ⟨y, hy, hq⟩ := while_post (step := laws_szEstimateS_l1 a) (fun s => 0 ≤ s.1 ∧ s.1 ≤ n - a.length ∧ ∃ i : Nat, s.2 = (i : Int) ∧ i ≤ a.length ∧ ∀ j, j < i → (a.getD j default).Star.length ≤ 1048576 ∧ (a.getD j default).Observer.length ≤ 1048576)
        (fun y => y = .inr (-1) ∨ ∃ z : Int, y = .inl z ∧ 0 ≤ z ∧ z ≤ n - a.length ∧ ∀ j, j < a.length → (a.getD j default).Star.length ≤ 1048576 ∧ (a.getD j default).Observer.length ≤ 1048576) (fun s => a.length - s.2.toNat) (by
      rintro ⟨z, i⟩ ⟨hz0, hz1, i, rfl, hi, hj⟩
      simp only at hz0 hz1
      by_cases hlt : i < a.length
      · have hx := hw _ (getD_mem hlt default)
        obtain ⟨z2, e2, q2⟩ := szEstimate_is (x := a.getD i default) (n := z) hz0 (by omega) hx.1 hx.2
        simp only [laws_szEstimateS_l1, Int.ofNat_lt, hlt, decide_true, if_true, ixOk_nat, ck_true, Int.toNat_natCast, wrap_nat1 (show i < 9223372036854775807 by omega), e2, Option.bind_some]
        by_cases hneg : z2 < 0
        · right; exact ⟨_, by simp only [hneg, decide_true, if_true], .inl rfl⟩
        · left
          have q3 := q2 hneg
          refine ⟨_, by simp only [hneg, decide_false, Bool.false_eq_true, if_false]; rfl, ⟨by show 0 ≤ z2; omega, by show z2 ≤ _; omega, i + 1, rfl, by omega, fun j hj2 => ?_⟩, by simp only [Int.toNat_natCast]; omega⟩
          rcases Nat.lt_or_ge j i with c | c
          · exact hj j c
          · obtain rfl : j = i := by omega
            exact q3.2
      · right
        obtain rfl : i = a.length := by omega
        exact ⟨.inl z, by simp [laws_szEstimateS_l1], .inr ⟨z, rfl, hz0, hz1, hj⟩⟩) (s := (n - a.length, 0)) ⟨by show 0 ≤ n - _; omega, by show n - _ ≤ _; omega, 0, rfl, by omega, fun j hj => by omega⟩
    simp only [h, decide_false, Bool.false_eq_true, if_false, hy, Option.bind_some]
    rcases hq with rfl | ⟨z, rfl, z0, z1, z2⟩
    · exact ⟨-1, rfl, fun c => absurd (by decide) c⟩
    · refine ⟨z, rfl, fun _ => ⟨by omega, by omega, fun x hx => ?_⟩⟩
      obtain ⟨j, hj, rfl⟩ := List.getElem_of_mem hx
      have := z2 j hj
      rwa [getD_lt hj] at this

/-! ### Star -/

theorem Star_beq (x y : Star) : (((x.Name) == (y.Name)) && (((x.Ascend) == (y.Ascend)) && (((x.Decl) == (y.Decl)) && (((x.Bright) == (y.Bright)) && ((x.Faint) == (y.Faint)))))) = (x == y) := by
  have hd : (x == y) = decide (x = y) := by rw [Bool.eq_iff_iff]; simp
  rw [hd]
  obtain ⟨a0, a1, a2, a3, a4⟩ := x
  obtain ⟨b0, b1, b2, b3, b4⟩ := y
  rw [Bool.eq_iff_iff]
  simp [Star.mk.injEq]
theorem eqStar_is (a b : Star) : laws_eqStar a b = some (a == b) := by
  have hd : (a == b) = decide (a = b) := by rw [Bool.eq_iff_iff]; simp
  rw [hd]
  obtain ⟨a0, a1, a2, a3, a4⟩ := a
  obtain ⟨b0, b1, b2, b3, b4⟩ := b
  unfold laws_eqStar
  simp only [Star.mk.injEq]
  by_cases h0 : a0 = b0
  rotate_left
  · simp [h0]
  by_cases h1 : a1 = b1
  rotate_left
  · simp [h0, h1]
  by_cases h2 : a2 = b2
  rotate_left
  · simp [h0, h1, h2]
  by_cases h3 : a3 = b3
  rotate_left
  · simp [h0, h1, h2, h3]
  by_cases h4 : a4 = b4
  rotate_left
  · simp [h0, h1, h2, h3, h4]
  simp [h0, h1, h2, h3, h4]
theorem eqStarS_is {a b : List Star} (h : a.length ≤ 1099511627776) : laws_eqStarS a b = some (decide (a = b)) := by
  unfold laws_eqStarS
  by_cases hl : a.length = b.length
  · have h1 : ((a.length : Int) == (b.length : Int)) = true := by simp [hl]
    rw [h1]
    have := while_all (step := laws_eqStarS_l1 a b) (fun i => a.getD i default == b.getD i default) a.length (decide (a = b)) (yes := .inl ()) (no := .inr false)
      (by rw [decide_eq_true_eq]; exact (getD_eq_iff hl).symm)
      (fun i hi => by
        have hi2 : i < b.length := by omega
        simp only [laws_eqStarS_l1, ixOk_nat, hi, hi2, decide_true, ck_true, Int.ofNat_lt, if_true, Int.toNat_natCast, wrap_nat1 (show i < 9223372036854775807 by omega), eqStar_is, Option.bind_some]
        cases (a.getD i default == b.getD i default) <;> rfl)
      (by simp [laws_eqStarS_l1])
    simp only [Bool.not_true, Bool.false_eq_true, if_false, this, Option.bind_some]
    by_cases hab : a = b <;> simp [hab]
  · have h1 : ((a.length : Int) == (b.length : Int)) = false := by simp; omega
    rw [h1]
    have : a ≠ b := fun c => hl (by rw [c])
    simp [this]
theorem toStar_is (a : Star) : laws_toStar a = some a := id rfl
theorem toStarS_is {a : List Star} (h : a.length ≤ 1099511627776) : laws_toStarS a = some a := by
  unfold laws_toStarS
  rw [mkOk_of (by omega) (by omega) (by omega), ck_true, Int.toNat_natCast, copy_loop _ h]
  · rfl
  · intro out i ho hi
    simp only [laws_toStarS_l1, ixOk_nat, ho, hi, decide_true, ck_true, Int.ofNat_lt, if_true, Int.toNat_natCast, wrap_nat1 (show i < 9223372036854775807 by omega), toStar_is, Option.bind_some]
  · intro out; simp [laws_toStarS_l1]
noncomputable def mkStar (x : Star) (k : Int) : Star := ⟨mt (k), k + 1, k + 1 + 1, k + 1 + 1 + 1, k + 1 + 1 + 1 + 1⟩
theorem markStarS_step (l : List Star) (k : Int) (i : Nat) (hi : i < l.length) (hl2 : l.length ≤ 1099511627776) (h1 : 1 ≤ k) (h2 : k ≤ 2251799813685248) :
    laws_markStarS_l1 (l, k, (i : Int)) = some (.inl (l.set i (mkStar (l.getD i default) k), k + ((5 : Nat) : Int), ((i + 1 : Nat) : Int))) := by
  have hk1 : IntKind.i64.wrap (k + 1) = k + 1 := wrap_i64 (by omega) (by omega)
  have hk2 : IntKind.i64.wrap (k + 1 + 1) = k + 1 + 1 := wrap_i64 (by omega) (by omega)
  have hk3 : IntKind.i64.wrap (k + 1 + 1 + 1) = k + 1 + 1 + 1 := wrap_i64 (by omega) (by omega)
  have hk4 : IntKind.i64.wrap (k + 1 + 1 + 1 + 1) = k + 1 + 1 + 1 + 1 := wrap_i64 (by omega) (by omega)
  have hk5 : IntKind.i64.wrap (k + 1 + 1 + 1 + 1 + 1) = k + ((5 : Nat) : Int) := by rw [wrap_i64 (by omega) (by omega)]; omega
  have hm0 : laws_markText (k) = some (mt (k)) := markText_is (by omega) (by omega)
  simp only [laws_markStarS_l1, List.length_set, ixOk_nat, hi, decide_true, ck_true, Int.ofNat_lt, if_true, Int.toNat_natCast, wrap_nat1 (show i < 9223372036854775807 by omega), List.set_set, hk1, hk2, hk3, hk4, hk5, hm0, Option.bind_some, mkStar]
theorem markStarS_is {a : List Star} (hl : a.length ≤ 1099511627776) {k : Int} (h0 : 1 ≤ k) (h1 : k ≤ 1125899906842624) : laws_markStarS a k = some (k + ((5 : Nat) : Int) * a.length, markL mkStar 5 a k) := by
  unfold laws_markStarS
  rw [mark_loopK mkStar 5 (step := laws_markStarS_l1) (by omega) markStarS_step ?_ hl h0 h1]
  · simp [markL_len, ck_true]
  · intro l k; simp [laws_markStarS_l1]
theorem szStar_is {x : Star} {n : Int} (h0 : 0 ≤ n) (h1 : n ≤ 1048576) (w0 : x.Name.length ≤ maxLen) : ∃ z, laws_szStar x n = some z ∧ (¬ z < 0 → z ≤ n ∧ x.Name.length ≤ 1048576) := by
  have hm : maxLen = 9223372036854775807 := by decide
  unfold laws_szStar
  have e0 : IntKind.i64.wrap (n - (x.Name.length : Int)) = n - (x.Name.length : Int) := wrap_i64 (by omega) (by omega)
  simp only [e0]
  by_cases c0 : n - (x.Name.length : Int) < 0
  · exact ⟨-1, by simp only [c0, decide_true, if_true], fun c => absurd (by decide) c⟩
  simp only [c0, decide_false, Bool.false_eq_true, if_false]
  exact ⟨_, rfl, fun _ => ⟨by omega, by omega⟩⟩
theorem szStarS_is {a : List Star} {n : Int} (h0 : 0 ≤ n) (h1 : n ≤ 1048576) (hl : a.length ≤ maxLen) (hw : ∀ x ∈ a, x.Name.length ≤ maxLen) : ∃ z, laws_szStarS a n = some z ∧ (¬ z < 0 → z ≤ n ∧ a.length + z ≤ n ∧ ∀ x ∈ a, (x).Name.length ≤ 1048576) := by
  have hm : maxLen = 9223372036854775807 := by decide
  unfold laws_szStarS
  rw [wrap_i64 (by omega) (by omega)]
  by_cases h : n - (a.length : Int) < 0
  · exact ⟨-1, by simp [h], fun c => absurd (by decide) c⟩
  · obtain ⟨y, hy, hq⟩ := while_post (step := laws_szStarS_l1 a) (fun s => 0 ≤ s.1 ∧ s.1 ≤ n - a.length ∧ ∃ i : Nat, s.2 = (i : Int) ∧ i ≤ a.length ∧ ∀ j, j < i → (a.getD j default).Name.length ≤ 1048576)
        (fun y => y = .inr (-1) ∨ ∃ z : Int, y = .inl z ∧ 0 ≤ z ∧ z ≤ n - a.length ∧ ∀ j, j < a.length → (a.getD j default).Name.length ≤ 1048576) (fun s => a.length - s.2.toNat) (by
      rintro ⟨z, i⟩ ⟨hz0, hz1, i, rfl, hi, hj⟩
      simp only at hz0 hz1
      by_cases hlt : i < a.length
      · have hx := hw _ (getD_mem hlt default)
        obtain ⟨z2, e2, q2⟩ := szStar_is (x := a.getD i default) (n := z) hz0 (by omega) hx
        simp only [laws_szStarS_l1, Int.ofNat_lt, hlt, decide_true, if_true, ixOk_nat, ck_true, Int.toNat_natCast, wrap_nat1 (show i < 9223372036854775807 by omega), e2, Option.bind_some]
        by_cases hneg : z2 < 0
        · right; exact ⟨_, by simp only [hneg, decide_true, if_true], .inl rfl⟩
        · left
          have q3 := q2 hneg
          refine ⟨_, by simp only [hneg, decide_false, Bool.false_eq_true, if_false]; rfl, ⟨by show 0 ≤ z2; omega, by show z2 ≤ _; omega, i + 1, rfl, by omega, fun j hj2 => ?_⟩, by simp only [Int.toNat_natCast]; omega⟩
          rcases Nat.lt_or_ge j i with c | c
          · exact hj j c
          · obtain rfl : j = i := by omega
            exact q3.2
      · right
        obtain rfl : i = a.length := by omega
        exact ⟨.inl z, by simp [laws_szStarS_l1], .inr ⟨z, rfl, hz0, hz1, hj⟩⟩) (s := (n - a.length, 0)) ⟨by show 0 ≤ n - _; omega, by show n - _ ≤ _; omega, 0, rfl, by omega, fun j hj => by omega⟩
    simp only [h, decide_false, Bool.false_eq_true, if_false, hy, Option.bind_some]
    rcases hq with rfl | ⟨z, rfl, z0, z1, z2⟩
    · exact ⟨-1, rfl, fun c => absurd (by decide) c⟩
    · refine ⟨z, rfl, fun _ => ⟨by omega, by omega, fun x hx => ?_⟩⟩
      obtain ⟨j, hj, rfl⟩ := List.getElem_of_mem hx
      have := z2 j hj
      rwa [getD_lt hj] at this

/-! ### Observer -/

theorem Observer_beq (x y : Observer) : (((x.Name) == (y.Name)) && ((x.Shift) == (y.Shift))) = (x == y) := by
  have hd : (x == y) = decide (x = y) := by rw [Bool.eq_iff_iff]; simp
  rw [hd]
  obtain ⟨a0, a1⟩ := x
  obtain ⟨b0, b1⟩ := y
  rw [Bool.eq_iff_iff]
  simp [Observer.mk.injEq]
theorem eqObserver_is (a b : Observer) : laws_eqObserver a b = some (a == b) := by
  have hd : (a == b) = decide (a = b) := by rw [Bool.eq_iff_iff]; simp
  rw [hd]
  obtain ⟨a0, a1⟩ := a
  obtain ⟨b0, b1⟩ := b
  unfold laws_eqObserver
  simp only [Observer.mk.injEq]
  by_cases h0 : a0 = b0
  rotate_left
  · simp [h0]
  by_cases h1 : a1 = b1
  rotate_left
  · simp [h0, h1]
  simp [h0, h1]
theorem eqObserverS_is {a b : List Observer} (h : a.length ≤ 1099511627776) : laws_eqObserverS a b = some (decide (a = b)) := by
  unfold laws_eqObserverS
  by_cases hl : a.length = b.length
  · have h1 : ((a.length : Int) == (b.length : Int)) = true := by simp [hl]
    rw [h1]
    have := while_all (step := laws_eqObserverS_l1 a b) (fun i => a.getD i default == b.getD i default) a.length (decide (a = b)) (yes := .inl ()) (no := .inr false)
      (by rw [decide_eq_true_eq]; exact (getD_eq_iff hl).symm)
      (fun i hi => by
        have hi2 : i < b.length := by omega
        simp only [laws_eqObserverS_l1, ixOk_nat, hi, hi2, decide_true, ck_true, Int.ofNat_lt, if_true, Int.toNat_natCast, wrap_nat1 (show i < 9223372036854775807 by omega), eqObserver_is, Option.bind_some]
        cases (a.getD i default == b.getD i default) <;> rfl)
      (by simp [laws_eqObserverS_l1])
    simp only [Bool.not_true, Bool.false_eq_true, if_false, this, Option.bind_some]
    by_cases hab : a = b <;> simp [hab]
  · have h1 : ((a.length : Int) == (b.length : Int)) = false := by simp; omega
    rw [h1]
    have : a ≠ b := fun c => hl (by rw [c])
    simp [this]
theorem toObserver_is (a : Observer) : laws_toObserver a = some a := id rfl
theorem toObserverS_is {a : List Observer} (h : a.length ≤ 1099511627776) : laws_toObserverS a = some a := by
  unfold laws_toObserverS
  rw [mkOk_of (by omega) (by omega) (by omega), ck_true, Int.toNat_natCast, copy_loop _ h]
  · rfl
  · intro out i ho hi
    simp only [laws_toObserverS_l1, ixOk_nat, ho, hi, decide_true, ck_true, Int.ofNat_lt, if_true, Int.toNat_natCast, wrap_nat1 (show i < 9223372036854775807 by omega), toObserver_is, Option.bind_some]
  · intro out; simp [laws_toObserverS_l1]
noncomputable def mkObserver (x : Observer) (k : Int) : Observer := ⟨mt (k), k + 1⟩
theorem markObserverS_step (l : List Observer) (k : Int) (i : Nat) (hi : i < l.length) (hl2 : l.length ≤ 1099511627776) (h1 : 1 ≤ k) (h2 : k ≤ 2251799813685248) :
    laws_markObserverS_l1 (l, k, (i : Int)) = some (.inl (l.set i (mkObserver (l.getD i default) k), k + ((2 : Nat) : Int), ((i + 1 : Nat) : Int))) := by
  have hk1 : IntKind.i64.wrap (k + 1) = k + 1 := wrap_i64 (by omega) (by omega)
  have hk2 : IntKind.i64.wrap (k + 1 + 1) = k + ((2 : Nat) : Int) := by rw [wrap_i64 (by omega) (by omega)]; omega
  have hm0 : laws_markText (k) = some (mt (k)) := markText_is (by omega) (by omega)
  simp only [laws_markObserverS_l1, List.length_set, ixOk_nat, hi, decide_true, ck_true, Int.ofNat_lt, if_true, Int.toNat_natCast, wrap_nat1 (show i < 9223372036854775807 by omega), List.set_set, hk1, hk2, hm0, Option.bind_some, mkObserver]
theorem markObserverS_is {a : List Observer} (hl : a.length ≤ 1099511627776) {k : Int} (h0 : 1 ≤ k) (h1 : k ≤ 1125899906842624) : laws_markObserverS a k = some (k + ((2 : Nat) : Int) * a.length, markL mkObserver 2 a k) := by
  unfold laws_markObserverS
  rw [mark_loopK mkObserver 2 (step := laws_markObserverS_l1) (by omega) markObserverS_step ?_ hl h0 h1]
  · simp [markL_len, ck_true]
  · intro l k; simp [laws_markObserverS_l1]
theorem szObserver_is {x : Observer} {n : Int} (h0 : 0 ≤ n) (h1 : n ≤ 1048576) (w0 : x.Name.length ≤ maxLen) : ∃ z, laws_szObserver x n = some z ∧ (¬ z < 0 → z ≤ n ∧ x.Name.length ≤ 1048576) := by
  have hm : maxLen = 9223372036854775807 := by decide
  unfold laws_szObserver
  have e0 : IntKind.i64.wrap (n - (x.Name.length : Int)) = n - (x.Name.length : Int) := wrap_i64 (by omega) (by omega)
  simp only [e0]
  by_cases c0 : n - (x.Name.length : Int) < 0
  · exact ⟨-1, by simp only [c0, decide_true, if_true], fun c => absurd (by decide) c⟩
  simp only [c0, decide_false, Bool.false_eq_true, if_false]
  exact ⟨_, rfl, fun _ => ⟨by omega, by omega⟩⟩
theorem szObserverS_is {a : List Observer} {n : Int} (h0 : 0 ≤ n) (h1 : n ≤ 1048576) (hl : a.length ≤ maxLen) (hw : ∀ x ∈ a, x.Name.length ≤ maxLen) : ∃ z, laws_szObserverS a n = some z ∧ (¬ z < 0 → z ≤ n ∧ a.length + z ≤ n ∧ ∀ x ∈ a, (x).Name.length ≤ 1048576) := by
  have hm : maxLen = 9223372036854775807 := by decide
  unfold laws_szObserverS
  rw [wrap_i64 (by omega) (by omega)]
  by_cases h : n - (a.length : Int) < 0
  · exact ⟨-1, by simp [h], fun c => absurd (by decide) c⟩
  · obtain ⟨y, hy, hq⟩ := while_post (step := laws_szObserverS_l1 a) (fun s => 0 ≤ s.1 ∧ s.1 ≤ n - a.length ∧ ∃ i : Nat, s.2 = (i : Int) ∧ i ≤ a.length ∧ ∀ j, j < i → (a.getD j default).Name.length ≤ 1048576)
        (fun y => y = .inr (-1) ∨ ∃ z : Int, y = .inl z ∧ 0 ≤ z ∧ z ≤ n - a.length ∧ ∀ j, j < a.length → (a.getD j default).Name.length ≤ 1048576) (fun s => a.length - s.2.toNat) (by
      rintro ⟨z, i⟩ ⟨hz0, hz1, i, rfl, hi, hj⟩
      simp only at hz0 hz1
      by_cases hlt : i < a.length
      · have hx := hw _ (getD_mem hlt default)
        obtain ⟨z2, e2, q2⟩ := szObserver_is (x := a.getD i default) (n := z) hz0 (by omega) hx
        simp only [laws_szObserverS_l1, Int.ofNat_lt, hlt, decide_true, if_true, ixOk_nat, ck_true, Int.toNat_natCast, wrap_nat1 (show i < 9223372036854775807 by omega), e2, Option.bind_some]
        by_cases hneg : z2 < 0
        · right; exact ⟨_, by simp only [hneg, decide_true, if_true], .inl rfl⟩
        · left
          have q3 := q2 hneg
          refine ⟨_, by simp only [hneg, decide_false, Bool.false_eq_true, if_false]; rfl, ⟨by show 0 ≤ z2; omega, by show z2 ≤ _; omega, i + 1, rfl, by omega, fun j hj2 => ?_⟩, by simp only [Int.toNat_natCast]; omega⟩
          rcases Nat.lt_or_ge j i with c | c
          · exact hj j c
          · obtain rfl : j = i := by omega
            exact q3.2
      · right
        obtain rfl : i = a.length := by omega
        exact ⟨.inl z, by simp [laws_szObserverS_l1], .inr ⟨z, rfl, hz0, hz1, hj⟩⟩) (s := (n - a.length, 0)) ⟨by show 0 ≤ n - _; omega, by show n - _ ≤ _; omega, 0, rfl, by omega, fun j hj => by omega⟩
    simp only [h, decide_false, Bool.false_eq_true, if_false, hy, Option.bind_some]
    rcases hq with rfl | ⟨z, rfl, z0, z1, z2⟩
    · exact ⟨-1, rfl, fun c => absurd (by decide) c⟩
    · refine ⟨z, rfl, fun _ => ⟨by omega, by omega, fun x hx => ?_⟩⟩
      obtain ⟨j, hj, rfl⟩ := List.getElem_of_mem hx
      have := z2 j hj
      rwa [getD_lt hj] at this

/-! ### Fault -/

theorem Fault_beq (x y : Fault) : (((x.Index) == (y.Index)) && ((x.Kind) == (y.Kind))) = (x == y) := by
  have hd : (x == y) = decide (x = y) := by rw [Bool.eq_iff_iff]; simp
  rw [hd]
  obtain ⟨a0, a1⟩ := x
  obtain ⟨b0, b1⟩ := y
  rw [Bool.eq_iff_iff]
  simp [Fault.mk.injEq]
theorem eqFault_is (a b : Fault) : laws_eqFault a b = some (a == b) := by
  have hd : (a == b) = decide (a = b) := by rw [Bool.eq_iff_iff]; simp
  rw [hd]
  obtain ⟨a0, a1⟩ := a
  obtain ⟨b0, b1⟩ := b
  unfold laws_eqFault
  simp only [Fault.mk.injEq]
  by_cases h0 : a0 = b0
  rotate_left
  · simp [h0]
  by_cases h1 : a1 = b1
  rotate_left
  · simp [h0, h1]
  simp [h0, h1]
theorem eqFaultS_is {a b : List Fault} (h : a.length ≤ 1099511627776) : laws_eqFaultS a b = some (decide (a = b)) := by
  unfold laws_eqFaultS
  by_cases hl : a.length = b.length
  · have h1 : ((a.length : Int) == (b.length : Int)) = true := by simp [hl]
    rw [h1]
    have := while_all (step := laws_eqFaultS_l1 a b) (fun i => a.getD i default == b.getD i default) a.length (decide (a = b)) (yes := .inl ()) (no := .inr false)
      (by rw [decide_eq_true_eq]; exact (getD_eq_iff hl).symm)
      (fun i hi => by
        have hi2 : i < b.length := by omega
        simp only [laws_eqFaultS_l1, ixOk_nat, hi, hi2, decide_true, ck_true, Int.ofNat_lt, if_true, Int.toNat_natCast, wrap_nat1 (show i < 9223372036854775807 by omega), eqFault_is, Option.bind_some]
        cases (a.getD i default == b.getD i default) <;> rfl)
      (by simp [laws_eqFaultS_l1])
    simp only [Bool.not_true, Bool.false_eq_true, if_false, this, Option.bind_some]
    by_cases hab : a = b <;> simp [hab]
  · have h1 : ((a.length : Int) == (b.length : Int)) = false := by simp; omega
    rw [h1]
    have : a ≠ b := fun c => hl (by rw [c])
    simp [this]
def mkFault (x : Fault) (k : Int) : Fault := ⟨k, k + 1⟩
theorem markFaultS_step (l : List Fault) (k : Int) (i : Nat) (hi : i < l.length) (hl2 : l.length ≤ 1099511627776) (h1 : 1 ≤ k) (h2 : k ≤ 2251799813685248) :
    laws_markFaultS_l1 (l, k, (i : Int)) = some (.inl (l.set i (mkFault (l.getD i default) k), k + ((2 : Nat) : Int), ((i + 1 : Nat) : Int))) := by
  have hk1 : IntKind.i64.wrap (k + 1) = k + 1 := wrap_i64 (by omega) (by omega)
  have hk2 : IntKind.i64.wrap (k + 1 + 1) = k + ((2 : Nat) : Int) := by rw [wrap_i64 (by omega) (by omega)]; omega
  simp only [laws_markFaultS_l1, List.length_set, ixOk_nat, hi, decide_true, ck_true, Int.ofNat_lt, if_true, Int.toNat_natCast, wrap_nat1 (show i < 9223372036854775807 by omega), List.set_set, hk1, hk2, mkFault]
theorem markFaultS_is {a : List Fault} (hl : a.length ≤ 1099511627776) {k : Int} (h0 : 1 ≤ k) (h1 : k ≤ 1125899906842624) : laws_markFaultS a k = some (k + ((2 : Nat) : Int) * a.length, markL mkFault 2 a k) := by
  unfold laws_markFaultS
  rw [mark_loopK mkFault 2 (step := laws_markFaultS_l1) (by omega) markFaultS_step ?_ hl h0 h1]
  · simp [markL_len, ck_true]
  · intro l k; simp [laws_markFaultS_l1]
theorem heldFaultS_is {a : List Fault} (hl : a.length ≤ 1099511627776) {k0 : Int} (h0 : 1 ≤ k0) (hk0 : k0 ≤ 1125899906842624) : laws_heldFaultS (markL mkFault 2 a k0) k0 = some (k0 + ((2 : Nat) : Int) * a.length) := by
  unfold laws_heldFaultS
  rw [held_loopK (f := mkFault) (c := 2) (a := a) (k0 := k0) (by omega) ?_ ?_ hl h0 hk0]
  · rfl
  · intro x k i hi hg h1 h2
    have hk1 : IntKind.i64.wrap (k + 1) = k + 1 := wrap_i64 (by omega) (by omega)
    have hk2 : IntKind.i64.wrap (k + 1 + 1) = k + ((2 : Nat) : Int) := by rw [wrap_i64 (by omega) (by omega)]; omega
    simp only [laws_heldFaultS_l1, markL_len, ixOk_nat, hi, decide_true, ck_true, Int.ofNat_lt, if_true, Int.toNat_natCast, wrap_nat1 (show i < 9223372036854775807 by omega), hg, hk1, hk2, mkFault, beq_self_eq_true, Bool.not_true, Bool.false_eq_true, if_false]
  · intro k; simp [laws_heldFaultS_l1, markL_len]

end Go.Proofs.Ythbnoddeifedkaa
