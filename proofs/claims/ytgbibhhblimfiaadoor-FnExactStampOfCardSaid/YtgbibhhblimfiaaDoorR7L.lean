/- What the helpers of the laws do. No condition. -/
import Derived.Test.YtgbibhhblimfiaaDoorR7T
import Derived.Test.YtgbibhhblimfiaaDoorEngTD
namespace Go.Proofs.YtgbibhhblimfiaaDoor
open Go Go.RowKit
set_option linter.unusedSimpArgs false
set_option linter.unusedVariables false

theorem spec_l00In_is (n a b : Int) : spec_l00In n a b = some (decide (a ≤ n) && decide (n ≤ b)) := id rfl
theorem impl_in_is (n a b : Int) : impl_in n a b = some (decide (a ≤ n) && decide (n ≤ b)) := id rfl

/-! ### Fault -/

theorem Fault_beq (x y : Fault) : (((x.Index) == (y.Index)) && ((x.Kind) == (y.Kind))) = (x == y) := by
  have hd : (x == y) = decide (x = y) := by rw [Bool.eq_iff_iff]; simp
  rw [hd]
  obtain ⟨a0, a1⟩ := x
  obtain ⟨b0, b1⟩ := y
  rw [Bool.eq_iff_iff]
  simp [Fault.mk.injEq]
theorem toFault_is (a : Fault) : laws_toFault a = some a := id rfl

/-! ### Entry -/

theorem Entry_beq (x y : Entry) : (((x.Day) == (y.Day)) && (((x.What) == (y.What)) && ((x.Value) == (y.Value)))) = (x == y) := by
  have hd : (x == y) = decide (x = y) := by rw [Bool.eq_iff_iff]; simp
  rw [hd]
  obtain ⟨a0, a1, a2⟩ := x
  obtain ⟨b0, b1, b2⟩ := y
  rw [Bool.eq_iff_iff]
  simp [Entry.mk.injEq]
theorem toEntry_is (a : Entry) : laws_toEntry a = some a := id rfl
theorem szEntry_is {x : Entry} {n : Int} (h0 : 0 ≤ n) (h1 : n ≤ 1048576) (w0 : x.What.length ≤ maxLen) : ∃ z, laws_szEntry x n = some z ∧ (¬ z < 0 → z ≤ n ∧ x.What.length ≤ 1048576) := by
  have hm : maxLen = 9223372036854775807 := by decide
  unfold laws_szEntry
  have e0 : IntKind.i64.wrap (n - (x.What.length : Int)) = n - (x.What.length : Int) := wrap_i64 (by omega) (by omega)
  simp only [e0]
  by_cases c0 : n - (x.What.length : Int) < 0
  · exact ⟨-1, by simp only [c0, decide_true, if_true], fun c => absurd (by decide) c⟩
  simp only [c0, decide_false, Bool.false_eq_true, if_false]
  exact ⟨_, rfl, fun _ => ⟨by omega, by omega⟩⟩

end Go.Proofs.YtgbibhhblimfiaaDoor
