/- What the helpers of the laws do. No condition. -/
import Derived.Test.YtgbibhhblimfiaaR5T
import Derived.Test.YtgbibhhblimfiaaEngTD
namespace Go.Proofs.Ytgbibhhblimfiaa
open Go Go.RowKit
set_option linter.unusedSimpArgs false
set_option linter.unusedVariables false

theorem spec_l00In_is (n a b : Int) : spec_l00In n a b = some (decide (a ≤ n) && decide (n ≤ b)) := id rfl
theorem impl_in_is (n a b : Int) : impl_in n a b = some (decide (a ≤ n) && decide (n ≤ b)) := id rfl
theorem eqByteS_is {a b : List UInt8} (h : a.length ≤ 1099511627776) : laws_eqByteS a b = some (decide (a = b)) := by
  unfold laws_eqByteS
  by_cases hl : a.length = b.length
  · have h1 : ((a.length : Int) == (b.length : Int)) = true := by simp [hl]
    rw [h1]
    have := while_all (step := laws_eqByteS_l1 a b) (fun i => a.getD i default == b.getD i default) a.length (decide (a = b)) (yes := .inl ()) (no := .inr false)
      (by rw [decide_eq_true_eq]; exact (getD_eq_iff hl).symm)
      (fun i hi => by
        have hi2 : i < b.length := by omega
        simp only [laws_eqByteS_l1, ixOk_nat, hi, hi2, decide_true, ck_true, Int.ofNat_lt, if_true, Int.toNat_natCast, wrap_nat1 (show i < 9223372036854775807 by omega)]
        have e : (((a.getD i default).toNat : Int) == ((b.getD i default).toNat : Int)) = (a.getD i default == b.getD i default) := by
          rw [Bool.eq_iff_iff]; simp [← UInt8.toNat_inj]; omega
        rw [e]
        cases (a.getD i default == b.getD i default) <;> rfl)
      (by simp [laws_eqByteS_l1])
    simp only [Bool.not_true, Bool.false_eq_true, if_false, this, Option.bind_some]
    by_cases hab : a = b <;> simp [hab]
  · have h1 : ((a.length : Int) == (b.length : Int)) = false := by simp; omega
    rw [h1]
    have : a ≠ b := fun c => hl (by rw [c])
    simp [this]
theorem toByteS_is {a : List UInt8} (h : a.length ≤ 1099511627776) : laws_toByteS a = some a := by
  unfold laws_toByteS
  rw [mkOk_of (by omega) (by omega) (by omega), ck_true, Int.toNat_natCast, copy_loop _ h]
  · rfl
  · intro out i ho hi
    simp only [laws_toByteS_l1, ixOk_nat, ho, hi, decide_true, ck_true, Int.ofNat_lt, if_true, Int.toNat_natCast, wrap_nat1 (show i < 9223372036854775807 by omega)]
  · intro out; simp [laws_toByteS_l1]
def mkB (x : UInt8) (k : Int) : UInt8 := UInt8.ofNat (IntKind.u8.wrap k).toNat
theorem markByteS_step (l : List UInt8) (k : Int) (i : Nat) (hi : i < l.length) (hl2 : l.length ≤ 1099511627776) (h1 : 1 ≤ k) (h2 : k ≤ 2251799813685248) :
    laws_markByteS_l1 (l, k, (i : Int)) = some (.inl (l.set i (mkB (l.getD i default) k), k + ((1 : Nat) : Int), ((i + 1 : Nat) : Int))) := by
  have hk1 : IntKind.i64.wrap (k + 1) = k + ((1 : Nat) : Int) := by rw [wrap_i64 (by omega) (by omega)]; omega
  simp only [laws_markByteS_l1, List.length_set, ixOk_nat, hi, decide_true, ck_true, Int.ofNat_lt, if_true, Int.toNat_natCast, wrap_nat1 (show i < 9223372036854775807 by omega), List.set_set, hk1, mkB, mkB, toU8]
theorem markByteS_is {a : List UInt8} (hl : a.length ≤ 1099511627776) {k : Int} (h0 : 1 ≤ k) (h1 : k ≤ 1125899906842624) : laws_markByteS a k = some (k + ((1 : Nat) : Int) * a.length, markL mkB 1 a k) := by
  unfold laws_markByteS
  rw [mark_loopK mkB 1 (step := laws_markByteS_l1) (by omega) markByteS_step ?_ hl h0 h1]
  · simp [markL_len, ck_true]
  · intro l k; simp [laws_markByteS_l1]

/-! ### Point -/

theorem Point_beq (x y : Point) : (((x.Time) == (y.Time)) && ((x.Mag) == (y.Mag))) = (x == y) := by
  have hd : (x == y) = decide (x = y) := by rw [Bool.eq_iff_iff]; simp
  rw [hd]
  obtain ⟨a0, a1⟩ := x
  obtain ⟨b0, b1⟩ := y
  rw [Bool.eq_iff_iff]
  simp [Point.mk.injEq]
theorem eqPoint_is (a b : Point) : laws_eqPoint a b = some (a == b) := by
  have hd : (a == b) = decide (a = b) := by rw [Bool.eq_iff_iff]; simp
  rw [hd]
  obtain ⟨a0, a1⟩ := a
  obtain ⟨b0, b1⟩ := b
  unfold laws_eqPoint
  simp only [Point.mk.injEq]
  by_cases h0 : a0 = b0
  rotate_left
  · simp [h0]
  by_cases h1 : a1 = b1
  rotate_left
  · simp [h0, h1]
  simp [h0, h1]
theorem eqPointS_is {a b : List Point} (h : a.length ≤ 1099511627776) : laws_eqPointS a b = some (decide (a = b)) := by
  unfold laws_eqPointS
  by_cases hl : a.length = b.length
  · have h1 : ((a.length : Int) == (b.length : Int)) = true := by simp [hl]
    rw [h1]
    have := while_all (step := laws_eqPointS_l1 a b) (fun i => a.getD i default == b.getD i default) a.length (decide (a = b)) (yes := .inl ()) (no := .inr false)
      (by rw [decide_eq_true_eq]; exact (getD_eq_iff hl).symm)
      (fun i hi => by
        have hi2 : i < b.length := by omega
        simp only [laws_eqPointS_l1, ixOk_nat, hi, hi2, decide_true, ck_true, Int.ofNat_lt, if_true, Int.toNat_natCast, wrap_nat1 (show i < 9223372036854775807 by omega), eqPoint_is, Option.bind_some]
        cases (a.getD i default == b.getD i default) <;> rfl)
      (by simp [laws_eqPointS_l1])
    simp only [Bool.not_true, Bool.false_eq_true, if_false, this, Option.bind_some]
    by_cases hab : a = b <;> simp [hab]
  · have h1 : ((a.length : Int) == (b.length : Int)) = false := by simp; omega
    rw [h1]
    have : a ≠ b := fun c => hl (by rw [c])
    simp [this]
def mkPoint (x : Point) (k : Int) : Point := ⟨k, k + 1⟩
theorem markPointS_step (l : List Point) (k : Int) (i : Nat) (hi : i < l.length) (hl2 : l.length ≤ 1099511627776) (h1 : 1 ≤ k) (h2 : k ≤ 2251799813685248) :
    laws_markPointS_l1 (l, k, (i : Int)) = some (.inl (l.set i (mkPoint (l.getD i default) k), k + ((2 : Nat) : Int), ((i + 1 : Nat) : Int))) := by
  have hk1 : IntKind.i64.wrap (k + 1) = k + 1 := wrap_i64 (by omega) (by omega)
  have hk2 : IntKind.i64.wrap (k + 1 + 1) = k + ((2 : Nat) : Int) := by rw [wrap_i64 (by omega) (by omega)]; omega
  simp only [laws_markPointS_l1, List.length_set, ixOk_nat, hi, decide_true, ck_true, Int.ofNat_lt, if_true, Int.toNat_natCast, wrap_nat1 (show i < 9223372036854775807 by omega), List.set_set, hk1, hk2, mkPoint]
theorem markPointS_is {a : List Point} (hl : a.length ≤ 1099511627776) {k : Int} (h0 : 1 ≤ k) (h1 : k ≤ 1125899906842624) : laws_markPointS a k = some (k + ((2 : Nat) : Int) * a.length, markL mkPoint 2 a k) := by
  unfold laws_markPointS
  rw [mark_loopK mkPoint 2 (step := laws_markPointS_l1) (by omega) markPointS_step ?_ hl h0 h1]
  · simp [markL_len, ck_true]
  · intro l k; simp [laws_markPointS_l1]
theorem heldPointS_is {a : List Point} (hl : a.length ≤ 1099511627776) {k0 : Int} (h0 : 1 ≤ k0) (hk0 : k0 ≤ 1125899906842624) : laws_heldPointS (markL mkPoint 2 a k0) k0 = some (k0 + ((2 : Nat) : Int) * a.length) := by
  unfold laws_heldPointS
  rw [held_loopK (f := mkPoint) (c := 2) (a := a) (k0 := k0) (by omega) ?_ ?_ hl h0 hk0]
  · rfl
  · intro x k i hi hg h1 h2
    have hk1 : IntKind.i64.wrap (k + 1) = k + 1 := wrap_i64 (by omega) (by omega)
    have hk2 : IntKind.i64.wrap (k + 1 + 1) = k + ((2 : Nat) : Int) := by rw [wrap_i64 (by omega) (by omega)]; omega
    simp only [laws_heldPointS_l1, markL_len, ixOk_nat, hi, decide_true, ck_true, Int.ofNat_lt, if_true, Int.toNat_natCast, wrap_nat1 (show i < 9223372036854775807 by omega), hg, hk1, hk2, mkPoint, beq_self_eq_true, Bool.not_true, Bool.false_eq_true, if_false]
  · intro k; simp [laws_heldPointS_l1, markL_len]

end Go.Proofs.Ytgbibhhblimfiaa
