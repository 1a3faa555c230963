/- What the helpers of the laws do. No condition. -/
import Derived.Test.YtgbopjgnggdhkabDoorAET
import Derived.Test.YtgbopjgnggdhkabDoorEngTD
namespace Go.Proofs.YtgbopjgnggdhkabDoor
open Go Go.RowKit
set_option linter.unusedSimpArgs false
set_option linter.unusedVariables false

theorem spec_l00In_is (n a b : Int) : spec_l00In n a b = some (decide (a ≤ n) && decide (n ≤ b)) := id rfl
theorem impl_in_is (n a b : Int) : impl_in n a b = some (decide (a ≤ n) && decide (n ≤ b)) := id rfl
theorem markText_some {k : Int} (h0 : 0 < k) (h1 : k ≤ 4503599627370496) : ∃ l, laws_markText k = some l := by
  obtain ⟨y, hy, hl⟩ := while_post (step := laws_markText_l1) (fun s => 0 ≤ s.1 ∧ s.1 + s.2.length ≤ 4503599627370496) (fun y => y.length ≤ 4503599627370496) (fun s => s.1.toNat) (by
    rintro ⟨k, out⟩ ⟨h0, h1⟩
    simp only at h0 h1
    by_cases h : 0 < k
    · left
      have t1 : k.tdiv 10 = k / 10 := Int.tdiv_eq_ediv_of_nonneg h0
      simp only [laws_markText_l1, h, decide_true, if_true, nz_of (show (10 : Int) ≠ 0 by decide), ck_true, t1]
      rw [catOk_of (by simp only [List.length_cons, List.length_nil]; omega), ck_true, wrap_i64 (n := k / 10) (by omega) (by omega)]
      refine ⟨_, rfl, ⟨by show 0 ≤ k / 10; omega, ?_⟩, by show (k / 10).toNat < k.toNat; omega⟩
      show k / 10 + ((_ ++ out).length : Int) ≤ _
      simp only [List.length_append, List.length_cons, List.length_nil]; omega
    · right
      exact ⟨out, by simp [laws_markText_l1, h], by show out.length ≤ _; omega⟩) (s := (k, [])) ⟨by show 0 ≤ k; omega, by show k + (([] : List UInt8).length : Int) ≤ _; simp; omega⟩
  refine ⟨[109] ++ y, ?_⟩
  unfold laws_markText
  have h2 : ¬ k ≤ 0 := by omega
  simp only [h2, decide_false, Bool.false_eq_true, if_false, hy, Option.bind_some]
  rw [catOk_of (by simp only [List.length_cons, List.length_nil]; omega), ck_true]
noncomputable def mt (k : Int) : List UInt8 := (laws_markText k).getD []
theorem markText_is {k : Int} (h0 : 0 < k) (h1 : k ≤ 4503599627370496) : laws_markText k = some (mt k) := by
  obtain ⟨l, hl⟩ := markText_some h0 h1
  unfold mt; rw [hl]; rfl

theorem eqInt64S_is {a b : List Int} (h : a.length ≤ 1099511627776) : laws_eqInt64S a b = some (decide (a = b)) := by
  unfold laws_eqInt64S
  by_cases hl : a.length = b.length
  · have h1 : ((a.length : Int) == (b.length : Int)) = true := by simp [hl]
    rw [h1]
    have := while_all (step := laws_eqInt64S_l1 a b) (fun i => a.getD i default == b.getD i default) a.length (decide (a = b)) (yes := .inl ()) (no := .inr false)
      (by rw [decide_eq_true_eq]; exact (getD_eq_iff hl).symm)
      (fun i hi => by
        have hi2 : i < b.length := by omega
        simp only [laws_eqInt64S_l1, ixOk_nat, hi, hi2, decide_true, ck_true, Int.ofNat_lt, if_true, Int.toNat_natCast, wrap_nat1 (show i < 9223372036854775807 by omega)]
        cases (a.getD i default == b.getD i default) <;> rfl)
      (by simp [laws_eqInt64S_l1])
    simp only [Bool.not_true, Bool.false_eq_true, if_false, this, Option.bind_some]
    by_cases hab : a = b <;> simp [hab]
  · have h1 : ((a.length : Int) == (b.length : Int)) = false := by simp; omega
    rw [h1]
    have : a ≠ b := fun c => hl (by rw [c])
    simp [this]
def mkI (x : Int) (k : Int) : Int := k
theorem markInt64S_step (l : List Int) (k : Int) (i : Nat) (hi : i < l.length) (hl2 : l.length ≤ 1099511627776) (h1 : 1 ≤ k) (h2 : k ≤ 2251799813685248) :
    laws_markInt64S_l1 (l, k, (i : Int)) = some (.inl (l.set i (mkI (l.getD i default) k), k + ((1 : Nat) : Int), ((i + 1 : Nat) : Int))) := by
  have hk1 : IntKind.i64.wrap (k + 1) = k + ((1 : Nat) : Int) := by rw [wrap_i64 (by omega) (by omega)]; omega
  simp only [laws_markInt64S_l1, List.length_set, ixOk_nat, hi, decide_true, ck_true, Int.ofNat_lt, if_true, Int.toNat_natCast, wrap_nat1 (show i < 9223372036854775807 by omega), List.set_set, hk1, mkI]
theorem markInt64S_is {a : List Int} (hl : a.length ≤ 1099511627776) {k : Int} (h0 : 1 ≤ k) (h1 : k ≤ 1125899906842624) : laws_markInt64S a k = some (k + ((1 : Nat) : Int) * a.length, markL mkI 1 a k) := by
  unfold laws_markInt64S
  rw [mark_loopK mkI 1 (step := laws_markInt64S_l1) (by omega) markInt64S_step ?_ hl h0 h1]
  · simp [markL_len, ck_true]
  · intro l k; simp [laws_markInt64S_l1]
theorem heldInt64S_is {a : List Int} (hl : a.length ≤ 1099511627776) {k0 : Int} (h0 : 1 ≤ k0) (hk0 : k0 ≤ 1125899906842624) : laws_heldInt64S (markL mkI 1 a k0) k0 = some (k0 + ((1 : Nat) : Int) * a.length) := by
  unfold laws_heldInt64S
  rw [held_loopK (f := mkI) (c := 1) (a := a) (k0 := k0) (by omega) ?_ ?_ hl h0 hk0]
  · rfl
  · intro x k i hi hg h1 h2
    have hk1 : IntKind.i64.wrap (k + 1) = k + ((1 : Nat) : Int) := by rw [wrap_i64 (by omega) (by omega)]; omega
    simp only [laws_heldInt64S_l1, markL_len, ixOk_nat, hi, decide_true, ck_true, Int.ofNat_lt, if_true, Int.toNat_natCast, wrap_nat1 (show i < 9223372036854775807 by omega), hg, hk1, mkI, beq_self_eq_true, Bool.not_true, Bool.false_eq_true, if_false]
  · intro k; simp [laws_heldInt64S_l1, markL_len]

/-! ### Entry -/

theorem Entry_beq (x y : Entry) : (((x.Day) == (y.Day)) && (((x.What) == (y.What)) && ((x.Value) == (y.Value)))) = (x == y) := by
  have hd : (x == y) = decide (x = y) := by rw [Bool.eq_iff_iff]; simp
  rw [hd]
  obtain ⟨a0, a1, a2⟩ := x
  obtain ⟨b0, b1, b2⟩ := y
  rw [Bool.eq_iff_iff]
  simp [Entry.mk.injEq]
theorem eqEntry_is (a b : Entry) : laws_eqEntry a b = some (a == b) := by
  have hd : (a == b) = decide (a = b) := by rw [Bool.eq_iff_iff]; simp
  rw [hd]
  obtain ⟨a0, a1, a2⟩ := a
  obtain ⟨b0, b1, b2⟩ := b
  unfold laws_eqEntry
  simp only [Entry.mk.injEq]
  by_cases h0 : a0 = b0
  rotate_left
  · simp [h0]
  by_cases h1 : a1 = b1
  rotate_left
  · simp [h0, h1]
  by_cases h2 : a2 = b2
  rotate_left
  · simp [h0, h1, h2]
  simp [h0, h1, h2]
theorem eqEntryS_is {a b : List Entry} (h : a.length ≤ 1099511627776) : laws_eqEntryS a b = some (decide (a = b)) := by
  unfold laws_eqEntryS
  by_cases hl : a.length = b.length
  · have h1 : ((a.length : Int) == (b.length : Int)) = true := by simp [hl]
    rw [h1]
    have := while_all (step := laws_eqEntryS_l1 a b) (fun i => a.getD i default == b.getD i default) a.length (decide (a = b)) (yes := .inl ()) (no := .inr false)
      (by rw [decide_eq_true_eq]; exact (getD_eq_iff hl).symm)
      (fun i hi => by
        have hi2 : i < b.length := by omega
        simp only [laws_eqEntryS_l1, ixOk_nat, hi, hi2, decide_true, ck_true, Int.ofNat_lt, if_true, Int.toNat_natCast, wrap_nat1 (show i < 9223372036854775807 by omega), eqEntry_is, Option.bind_some]
        cases (a.getD i default == b.getD i default) <;> rfl)
      (by simp [laws_eqEntryS_l1])
    simp only [Bool.not_true, Bool.false_eq_true, if_false, this, Option.bind_some]
    by_cases hab : a = b <;> simp [hab]
  · have h1 : ((a.length : Int) == (b.length : Int)) = false := by simp; omega
    rw [h1]
    have : a ≠ b := fun c => hl (by rw [c])
    simp [this]
theorem toEntry_is (a : Entry) : laws_toEntry a = some a := id rfl
noncomputable def mkEntry (x : Entry) (k : Int) : Entry := ⟨k, mt (k + 1), k + 1 + 1⟩
theorem markEntryS_step (l : List Entry) (k : Int) (i : Nat) (hi : i < l.length) (hl2 : l.length ≤ 1099511627776) (h1 : 1 ≤ k) (h2 : k ≤ 2251799813685248) :
    laws_markEntryS_l1 (l, k, (i : Int)) = some (.inl (l.set i (mkEntry (l.getD i default) k), k + ((3 : Nat) : Int), ((i + 1 : Nat) : Int))) := by
  have hk1 : IntKind.i64.wrap (k + 1) = k + 1 := wrap_i64 (by omega) (by omega)
  have hk2 : IntKind.i64.wrap (k + 1 + 1) = k + 1 + 1 := wrap_i64 (by omega) (by omega)
  have hk3 : IntKind.i64.wrap (k + 1 + 1 + 1) = k + ((3 : Nat) : Int) := by rw [wrap_i64 (by omega) (by omega)]; omega
  have hm1 : laws_markText (k + 1) = some (mt (k + 1)) := markText_is (by omega) (by omega)
  simp only [laws_markEntryS_l1, List.length_set, ixOk_nat, hi, decide_true, ck_true, Int.ofNat_lt, if_true, Int.toNat_natCast, wrap_nat1 (show i < 9223372036854775807 by omega), List.set_set, hk1, hk2, hk3, hm1, Option.bind_some, mkEntry]
theorem markEntryS_is {a : List Entry} (hl : a.length ≤ 1099511627776) {k : Int} (h0 : 1 ≤ k) (h1 : k ≤ 1125899906842624) : laws_markEntryS a k = some (k + ((3 : Nat) : Int) * a.length, markL mkEntry 3 a k) := by
  unfold laws_markEntryS
  rw [mark_loopK mkEntry 3 (step := laws_markEntryS_l1) (by omega) markEntryS_step ?_ hl h0 h1]
  · simp [markL_len, ck_true]
  · intro l k; simp [laws_markEntryS_l1]
theorem heldEntryS_is {a : List Entry} (hl : a.length ≤ 1099511627776) {k0 : Int} (h0 : 1 ≤ k0) (hk0 : k0 ≤ 1125899906842624) : laws_heldEntryS (markL mkEntry 3 a k0) k0 = some (k0 + ((3 : Nat) : Int) * a.length) := by
  unfold laws_heldEntryS
  rw [held_loopK (f := mkEntry) (c := 3) (a := a) (k0 := k0) (by omega) ?_ ?_ hl h0 hk0]
  · rfl
  · intro x k i hi hg h1 h2
    have hk1 : IntKind.i64.wrap (k + 1) = k + 1 := wrap_i64 (by omega) (by omega)
    have hk2 : IntKind.i64.wrap (k + 1 + 1) = k + 1 + 1 := wrap_i64 (by omega) (by omega)
    have hk3 : IntKind.i64.wrap (k + 1 + 1 + 1) = k + ((3 : Nat) : Int) := by rw [wrap_i64 (by omega) (by omega)]; omega
    have hm1 : laws_markText (k + 1) = some (mt (k + 1)) := markText_is (by omega) (by omega)
    simp only [laws_heldEntryS_l1, markL_len, ixOk_nat, hi, decide_true, ck_true, Int.ofNat_lt, if_true, Int.toNat_natCast, wrap_nat1 (show i < 9223372036854775807 by omega), hg, hk1, hk2, hk3, hm1, Option.bind_some, mkEntry, beq_self_eq_true, Bool.not_true, Bool.false_eq_true, if_false]
  · intro k; simp [laws_heldEntryS_l1, markL_len]
theorem szEntry_is {x : Entry} {n : Int} (h0 : 0 ≤ n) (h1 : n ≤ 1048576) (w0 : x.What.length ≤ maxLen) : ∃ z, laws_szEntry x n = some z ∧ (¬ z < 0 → z ≤ n ∧ x.What.length ≤ 1048576) := by
  have hm : maxLen = 9223372036854775807 := by decide
  unfold laws_szEntry
  have e0 : IntKind.i64.wrap (n - (x.What.length : Int)) = n - (x.What.length : Int) := wrap_i64 (by omega) (by omega)
  simp only [e0]
  by_cases c0 : n - (x.What.length : Int) < 0
  · exact ⟨-1, by simp only [c0, decide_true, if_true], fun c => absurd (by decide) c⟩
  simp only [c0, decide_false, Bool.false_eq_true, if_false]
  exact ⟨_, rfl, fun _ => ⟨by omega, by omega⟩⟩

end Go.Proofs.YtgbopjgnggdhkabDoor
