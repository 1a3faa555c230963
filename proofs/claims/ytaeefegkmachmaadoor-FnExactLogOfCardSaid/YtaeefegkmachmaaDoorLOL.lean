/- What the helpers of the laws do. No condition. -/
import Derived.Test.YtaeefegkmachmaaDoorLOT
import Derived.Test.YtaeefegkmachmaaDoorEngTD
namespace Go.Proofs.YtaeefegkmachmaaDoor
open Go Go.RowKit
set_option linter.unusedSimpArgs false
set_option linter.unusedVariables false

theorem spec_l00In_is (n a b : Int) : spec_l00In n a b = some (decide (a ≤ n) && decide (n ≤ b)) := id rfl
theorem impl_in_is (n a b : Int) : impl_in n a b = some (decide (a ≤ n) && decide (n ≤ b)) := id rfl

/-! ### Entry -/

theorem Entry_beq (x y : Entry) : (((x.Day) == (y.Day)) && (((x.What) == (y.What)) && ((x.Value) == (y.Value)))) = (x == y) := by
  have hd : (x == y) = decide (x = y) := by rw [Bool.eq_iff_iff]; simp
  rw [hd]
  obtain ⟨a0, a1, a2⟩ := x
  obtain ⟨b0, b1, b2⟩ := y
  rw [Bool.eq_iff_iff]
  simp [Entry.mk.injEq]
theorem eqEntry_is (a b : Entry) : laws_eqEntry a b = some (a == b) := by
  have hd : (a == b) = decide (a = b) := by rw [Bool.eq_iff_iff]; simp
  rw [hd]
  obtain ⟨a0, a1, a2⟩ := a
  obtain ⟨b0, b1, b2⟩ := b
  unfold laws_eqEntry
  simp only [Entry.mk.injEq]
  by_cases h0 : a0 = b0
  rotate_left
  · simp [h0]
  by_cases h1 : a1 = b1
  rotate_left
  · simp [h0, h1]
  by_cases h2 : a2 = b2
  rotate_left
  · simp [h0, h1, h2]
  simp [h0, h1, h2]
theorem eqEntryS_is {a b : List Entry} (h : a.length ≤ 1099511627776) : laws_eqEntryS a b = some (decide (a = b)) := by
  unfold laws_eqEntryS
  by_cases hl : a.length = b.length
  · have h1 : ((a.length : Int) == (b.length : Int)) = true := by simp [hl]
    rw [h1]
    have := while_all (step := laws_eqEntryS_l1 a b) (fun i => a.getD i default == b.getD i default) a.length (decide (a = b)) (yes := .inl ()) (no := .inr false)
      (by rw [decide_eq_true_eq]; exact (getD_eq_iff hl).symm)
      (fun i hi => by
        have hi2 : i < b.length := by omega
        simp only [laws_eqEntryS_l1, ixOk_nat, hi, hi2, decide_true, ck_true, Int.ofNat_lt, if_true, Int.toNat_natCast, wrap_nat1 (show i < 9223372036854775807 by omega), eqEntry_is, Option.bind_some]
        cases (a.getD i default == b.getD i default) <;> rfl)
      (by simp [laws_eqEntryS_l1])
    simp only [Bool.not_true, Bool.false_eq_true, if_false, this, Option.bind_some]
    by_cases hab : a = b <;> simp [hab]
  · have h1 : ((a.length : Int) == (b.length : Int)) = false := by simp; omega
    rw [h1]
    have : a ≠ b := fun c => hl (by rw [c])
    simp [this]
theorem toEntry_is (a : Entry) : laws_toEntry a = some a := id rfl
theorem toEntryS_is {a : List Entry} (h : a.length ≤ 1099511627776) : laws_toEntryS a = some a := by
  unfold laws_toEntryS
  rw [mkOk_of (by omega) (by omega) (by omega), ck_true, Int.toNat_natCast, copy_loop _ h]
  · rfl
  · intro out i ho hi
    simp only [laws_toEntryS_l1, ixOk_nat, ho, hi, decide_true, ck_true, Int.ofNat_lt, if_true, Int.toNat_natCast, wrap_nat1 (show i < 9223372036854775807 by omega), toEntry_is, Option.bind_some]
  · intro out; simp [laws_toEntryS_l1]
theorem szEntry_is {x : Entry} {n : Int} (h0 : 0 ≤ n) (h1 : n ≤ 1048576) (w0 : x.What.length ≤ maxLen) : ∃ z, laws_szEntry x n = some z ∧ (¬ z < 0 → z ≤ n ∧ x.What.length ≤ 1048576) := by
  have hm : maxLen = 9223372036854775807 := by decide
  unfold laws_szEntry
  have e0 : IntKind.i64.wrap (n - (x.What.length : Int)) = n - (x.What.length : Int) := wrap_i64 (by omega) (by omega)
  simp only [e0]
  by_cases c0 : n - (x.What.length : Int) < 0
  · exact ⟨-1, by simp only [c0, decide_true, if_true], fun c => absurd (by decide) c⟩
  simp only [c0, decide_false, Bool.false_eq_true, if_false]
  exact ⟨_, rfl, fun _ => ⟨by omega, by omega⟩⟩
theorem szEntryS_is {a : List Entry} {n : Int} (h0 : 0 ≤ n) (h1 : n ≤ 1048576) (hl : a.length ≤ maxLen) (hw : ∀ x ∈ a, x.What.length ≤ maxLen) : ∃ z, laws_szEntryS a n = some z ∧ (¬ z < 0 → z ≤ n ∧ a.length + z ≤ n ∧ ∀ x ∈ a, (x).What.length ≤ 1048576) := by
  have hm : maxLen = 9223372036854775807 := by decide
  unfold laws_szEntryS
  rw [wrap_i64 (by omega) (by omega)]
  by_cases h : n - (a.length : Int) < 0
  · exact ⟨-1, by simp [h], fun c => absurd (by decide) c⟩
  · obtain ⟨y, hy, hq⟩ := while_post (step := laws_szEntryS_l1 a) (fun s => 0 ≤ s.1 ∧ s.1 ≤ n - a.length ∧ ∃ i : Nat, s.2 = (i : Int) ∧ i ≤ a.length ∧ ∀ j, j < i → (a.getD j default).What.length ≤ 1048576)
        (fun y => y = .inr (-1) ∨ ∃ z : Int, y = .inl z ∧ 0 ≤ z ∧ z ≤ n - a.length ∧ ∀ j, j < a.length → (a.getD j default).What.length ≤ 1048576) (fun s => a.length - s.2.toNat) (by
      rintro ⟨z, i⟩ ⟨hz0, hz1, i, rfl, hi, hj⟩
      simp only at hz0 hz1
      by_cases hlt : i < a.length
      · have hx := hw _ (getD_mem hlt default)
        obtain ⟨z2, e2, q2⟩ := szEntry_is (x := a.getD i default) (n := z) hz0 (by omega) hx
        simp only [laws_szEntryS_l1, Int.ofNat_lt, hlt, decide_true, if_true, ixOk_nat, ck_true, Int.toNat_natCast, wrap_nat1 (show i < 9223372036854775807 by omega), e2, Option.bind_some]
        by_cases hneg : z2 < 0
        · right; exact ⟨_, by simp only [hneg, decide_true, if_true], .inl rfl⟩
        · left
          have q3 := q2 hneg
          refine ⟨_, by simp only [hneg, decide_false, Bool.false_eq_true, if_false]; rfl, ⟨by show 0 ≤ z2; omega, by show z2 ≤ _; omega, i + 1, rfl, by omega, fun j hj2 => ?_⟩, by simp only [Int.toNat_natCast]; omega⟩
          rcases Nat.lt_or_ge j i with c | c
          · exact hj j c
          · obtain rfl : j = i := by omega
            exact q3.2
      · right
        obtain rfl : i = a.length := by omega
        exact ⟨.inl z, by simp [laws_szEntryS_l1], .inr ⟨z, rfl, hz0, hz1, hj⟩⟩) (s := (n - a.length, 0)) ⟨by show 0 ≤ n - _; omega, by show n - _ ≤ _; omega, 0, rfl, by omega, fun j hj => by omega⟩
    simp only [h, decide_false, Bool.false_eq_true, if_false, hy, Option.bind_some]
    rcases hq with rfl | ⟨z, rfl, z0, z1, z2⟩
    · exact ⟨-1, rfl, fun c => absurd (by decide) c⟩
    · refine ⟨z, rfl, fun _ => ⟨by omega, by omega, fun x hx => ?_⟩⟩
      obtain ⟨j, hj, rfl⟩ := List.getElem_of_mem hx
      have := z2 j hj
      rwa [getD_lt hj] at this

end Go.Proofs.YtaeefegkmachmaaDoor
