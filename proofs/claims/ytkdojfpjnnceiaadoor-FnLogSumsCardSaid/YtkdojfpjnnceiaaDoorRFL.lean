/- What the helpers of the laws do. No condition. -/
import Derived.Test.YtkdojfpjnnceiaaDoorRFT
import Derived.Test.YtkdojfpjnnceiaaDoorEngTD
namespace Go.Proofs.YtkdojfpjnnceiaaDoor
open Go Go.RowKit
set_option linter.unusedSimpArgs false
set_option linter.unusedVariables false

theorem spec_l00In_is (n a b : Int) : spec_l00In n a b = some (decide (a ≤ n) && decide (n ≤ b)) := id rfl
theorem impl_in_is (n a b : Int) : impl_in n a b = some (decide (a ≤ n) && decide (n ≤ b)) := id rfl
theorem markText_some {k : Int} (h0 : 0 < k) (h1 : k ≤ 4503599627370496) : ∃ l, laws_markText k = some l := by
  obtain ⟨y, hy, hl⟩ := while_post (step := laws_markText_l1) (fun s => 0 ≤ s.1 ∧ s.1 + s.2.length ≤ 4503599627370496) (fun y => y.length ≤ 4503599627370496) (fun s => s.1.toNat) (by
    rintro ⟨k, out⟩ ⟨h0, h1⟩
    simp only at h0 h1
    by_cases h : 0 < k
    · left
      have t1 : k.tdiv 10 = k / 10 := Int.tdiv_eq_ediv_of_nonneg h0
      simp only [laws_markText_l1, h, decide_true, if_true, nz_of (show (10 : Int) ≠ 0 by decide), ck_true, t1]
      rw [catOk_of (by simp only [List.length_cons, List.length_nil]; omega), ck_true, wrap_i64 (n := k / 10) (by omega) (by omega)]
      refine ⟨_, rfl, ⟨by show 0 ≤ k / 10; omega, ?_⟩, by show (k / 10).toNat < k.toNat; omega⟩
      show k / 10 + ((_ ++ out).length : Int) ≤ _
      simp only [List.length_append, List.length_cons, List.length_nil]; omega
    · right
      exact ⟨out, by simp [laws_markText_l1, h], by show out.length ≤ _; omega⟩) (s := (k, [])) ⟨by show 0 ≤ k; omega, by show k + (([] : List UInt8).length : Int) ≤ _; simp; omega⟩
  refine ⟨[109] ++ y, ?_⟩
  unfold laws_markText
  have h2 : ¬ k ≤ 0 := by omega
  simp only [h2, decide_false, Bool.false_eq_true, if_false, hy, Option.bind_some]
  rw [catOk_of (by simp only [List.length_cons, List.length_nil]; omega), ck_true]
noncomputable def mt (k : Int) : List UInt8 := (laws_markText k).getD []
theorem markText_is {k : Int} (h0 : 0 < k) (h1 : k ≤ 4503599627370496) : laws_markText k = some (mt k) := by
  obtain ⟨l, hl⟩ := markText_some h0 h1
  unfold mt; rw [hl]; rfl

theorem eqStringS_is {a b : List (List UInt8)} (h : a.length ≤ 1099511627776) : laws_eqStringS a b = some (decide (a = b)) := by
  unfold laws_eqStringS
  by_cases hl : a.length = b.length
  · have h1 : ((a.length : Int) == (b.length : Int)) = true := by simp [hl]
    rw [h1]
    have := while_all (step := laws_eqStringS_l1 a b) (fun i => a.getD i default == b.getD i default) a.length (decide (a = b)) (yes := .inl ()) (no := .inr false)
      (by rw [decide_eq_true_eq]; exact (getD_eq_iff hl).symm)
      (fun i hi => by
        have hi2 : i < b.length := by omega
        simp only [laws_eqStringS_l1, ixOk_nat, hi, hi2, decide_true, ck_true, Int.ofNat_lt, if_true, Int.toNat_natCast, wrap_nat1 (show i < 9223372036854775807 by omega)]
        cases (a.getD i default == b.getD i default) <;> rfl)
      (by simp [laws_eqStringS_l1])
    simp only [Bool.not_true, Bool.false_eq_true, if_false, this, Option.bind_some]
    by_cases hab : a = b <;> simp [hab]
  · have h1 : ((a.length : Int) == (b.length : Int)) = false := by simp; omega
    rw [h1]
    have : a ≠ b := fun c => hl (by rw [c])
    simp [this]
noncomputable def mkS (x : List UInt8) (k : Int) : List UInt8 := mt k
theorem markStringS_step (l : List (List UInt8)) (k : Int) (i : Nat) (hi : i < l.length) (hl2 : l.length ≤ 1099511627776) (h1 : 1 ≤ k) (h2 : k ≤ 2251799813685248) :
    laws_markStringS_l1 (l, k, (i : Int)) = some (.inl (l.set i (mkS (l.getD i default) k), k + ((1 : Nat) : Int), ((i + 1 : Nat) : Int))) := by
  have hk1 : IntKind.i64.wrap (k + 1) = k + ((1 : Nat) : Int) := by rw [wrap_i64 (by omega) (by omega)]; omega
  have hm0 : laws_markText (k) = some (mt (k)) := markText_is (by omega) (by omega)
  simp only [laws_markStringS_l1, List.length_set, ixOk_nat, hi, decide_true, ck_true, Int.ofNat_lt, if_true, Int.toNat_natCast, wrap_nat1 (show i < 9223372036854775807 by omega), List.set_set, hk1, hm0, Option.bind_some, mkS]
theorem markStringS_is {a : List (List UInt8)} (hl : a.length ≤ 1099511627776) {k : Int} (h0 : 1 ≤ k) (h1 : k ≤ 1125899906842624) : laws_markStringS a k = some (k + ((1 : Nat) : Int) * a.length, markL mkS 1 a k) := by
  unfold laws_markStringS
  rw [mark_loopK mkS 1 (step := laws_markStringS_l1) (by omega) markStringS_step ?_ hl h0 h1]
  · simp [markL_len, ck_true]
  · intro l k; simp [laws_markStringS_l1]
theorem heldStringS_is {a : List (List UInt8)} (hl : a.length ≤ 1099511627776) {k0 : Int} (h0 : 1 ≤ k0) (hk0 : k0 ≤ 1125899906842624) : laws_heldStringS (markL mkS 1 a k0) k0 = some (k0 + ((1 : Nat) : Int) * a.length) := by
  unfold laws_heldStringS
  rw [held_loopK (f := mkS) (c := 1) (a := a) (k0 := k0) (by omega) ?_ ?_ hl h0 hk0]
  · rfl
  · intro x k i hi hg h1 h2
    have hk1 : IntKind.i64.wrap (k + 1) = k + ((1 : Nat) : Int) := by rw [wrap_i64 (by omega) (by omega)]; omega
    have hm0 : laws_markText (k) = some (mt (k)) := markText_is (by omega) (by omega)
    simp only [laws_heldStringS_l1, markL_len, ixOk_nat, hi, decide_true, ck_true, Int.ofNat_lt, if_true, Int.toNat_natCast, wrap_nat1 (show i < 9223372036854775807 by omega), hg, hk1, hm0, Option.bind_some, mkS, beq_self_eq_true, Bool.not_true, Bool.false_eq_true, if_false]
  · intro k; simp [laws_heldStringS_l1, markL_len]

/-! ### Fault -/

theorem Fault_beq (x y : Fault) : (((x.Index) == (y.Index)) && ((x.Kind) == (y.Kind))) = (x == y) := by
  have hd : (x == y) = decide (x = y) := by rw [Bool.eq_iff_iff]; simp
  rw [hd]
  obtain ⟨a0, a1⟩ := x
  obtain ⟨b0, b1⟩ := y
  rw [Bool.eq_iff_iff]
  simp [Fault.mk.injEq]
theorem eqFault_is (a b : Fault) : laws_eqFault a b = some (a == b) := by
  have hd : (a == b) = decide (a = b) := by rw [Bool.eq_iff_iff]; simp
  rw [hd]
  obtain ⟨a0, a1⟩ := a
  obtain ⟨b0, b1⟩ := b
  unfold laws_eqFault
  simp only [Fault.mk.injEq]
  by_cases h0 : a0 = b0
  rotate_left
  · simp [h0]
  by_cases h1 : a1 = b1
  rotate_left
  · simp [h0, h1]
  simp [h0, h1]

end Go.Proofs.YtkdojfpjnnceiaaDoor
