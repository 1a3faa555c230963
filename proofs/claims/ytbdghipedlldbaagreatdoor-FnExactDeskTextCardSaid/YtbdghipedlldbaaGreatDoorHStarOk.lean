/- What typed forms say: valid stars, and valid desks. No condition. -/
import Derived.Test.YtbdghipedlldbaaGreatDoorHEst
import Derived.Test.YtbdghipedlldbaaGreatDoorHLogE
namespace Go.Proofs.YtbdghipedlldbaaGreatDoor
open Go Go.RowKit
set_option linter.unusedSimpArgs false
set_option linter.unusedVariables false

def oneS (x : Star) : Bool := ((((nameB x.Name && (decide (0 ≤ x.Ascend) && decide (x.Ascend ≤ 86399))) && (decide (-324000 ≤ x.Decl) && decide (x.Decl ≤ 324000))) && (decide (-2000 ≤ x.Bright) && decide (x.Bright ≤ 20000))) && (decide (-2000 ≤ x.Faint) && decide (x.Faint ≤ 20000))) && decide (x.Bright ≤ x.Faint)

theorem l04One_is (x : Star) : spec_l04One x = some (oneS x) := by
  unfold spec_l04One oneS
  simp only [spec_l04Ascend, spec_l04Decl, spec_l02Mag, spec_l00In_is, spec_IsName_is, Option.bind_some, Option.isSome_some, Option.getD_some, Bool.or_true, ck_true]

theorem isStar_is (x : Star) : impl_isStar x = some (oneS x) := by
  unfold impl_isStar oneS
  simp only [impl_ValidMag, impl_in_is, impl_IsName_is, Option.bind_some, Option.isSome_some, Option.getD_some, Bool.or_true, ck_true, Bool.and_assoc]

def okS (l : List Star) (i : Nat) : Bool := oneS (l.getD i default) && !(decide (0 < i) && !(Op.bytesLess (l.getD (i - 1) default).Name (l.getD i default).Name))
def goodS (l : List Star) : Bool := (List.range l.length).all (okS l)

theorem l04_step {l : List Star} (hl : l.length ≤ 1099511627776) {i : Nat} (hi : i < l.length) : spec_l04Ok_l1 l (i : Int) = some (if okS l i = true then .inl ((i + 1 : Nat) : Int) else .inr (.inr false)) := by
  simp only [spec_l04Ok_l1, ixOk_nat, hi, decide_true, ck_true, Int.ofNat_lt, if_true, Int.toNat_natCast, wrap_nat1 (show i < 9223372036854775807 by omega), l04One_is, Option.bind_some, Option.isSome_some, Option.getD_some, Bool.or_true]
  unfold okS
  by_cases h0 : 0 < i
  · have e0 : decide ((0 : Int) < (i : Int)) = true := by simpa using h0
    have e1 : decide (0 < i) = true := by simpa using h0
    have w1 : IntKind.i64.wrap ((i : Int) - 1) = ((i - 1 : Nat) : Int) := by rw [wrap_i64 (by omega) (by omega)]; omega
    have ok1 : ixOk ((i - 1 : Nat) : Int) l.length = true := by rw [ixOk_nat]; simp; omega
    simp only [e0, e1, w1, ok1, Bool.or_true, ck_true, Bool.true_and, Int.toNat_natCast]
    generalize oneS (l.getD i default) = A
    generalize Op.bytesLess (l.getD (i - 1) default).Name (l.getD i default).Name = B
    cases A <;> cases B <;> rfl
  · have e0 : decide ((0 : Int) < (i : Int)) = false := by simpa using h0
    have e1 : decide (0 < i) = false := by simpa using h0
    simp only [e0, e1, Bool.false_and, Bool.and_false, Bool.not_false, Bool.true_or, ck_true, Bool.or_false, Bool.and_true]
    generalize oneS (l.getD i default) = A
    cases A <;> rfl

theorem l04Ok_is {l : List Star} (hl : l.length ≤ 1099511627776) : spec_l04Ok l = some (goodS l && decide (l.length ≤ 60)) := by
  unfold spec_l04Ok
  rw [while_all (step := spec_l04Ok_l1 l) (okS l) l.length (goodS l) (yes := .inl ()) (no := .inr false) (by unfold goodS; simp) (fun i hi => l04_step hl hi) (by simp [spec_l04Ok_l1])]
  have e : decide ((l.length : Int) ≤ 60) = decide (l.length ≤ 60) := by rw [Bool.eq_iff_iff]; simp; omega
  simp only [Option.bind_some, ite_b]
  cases goodS l <;> simp [e]

theorem rising_step {l : List Star} (hl : l.length ≤ 1099511627776) {i : Nat} (hi : i < l.length) : impl_rising_impl_Star__impl_isStar__impl_starName_l1 l l (l.length : Int) (i : Int) = some (if okS l i = true then .inl ((i + 1 : Nat) : Int) else .inr (.inr false)) := by
  simp only [impl_rising_impl_Star__impl_isStar__impl_starName_l1, impl_starName, ixOk_nat, hi, decide_true, ck_true, Int.ofNat_lt, if_true, Int.toNat_natCast, wrap_nat1 (show i < 9223372036854775807 by omega), isStar_is, Option.bind_some, Option.isSome_some, Option.getD_some, Bool.or_true]
  unfold okS
  by_cases h0 : 0 < i
  · have e0 : decide ((0 : Int) < (i : Int)) = true := by simpa using h0
    have e1 : decide (0 < i) = true := by simpa using h0
    have w1 : IntKind.i64.wrap ((i : Int) - 1) = ((i - 1 : Nat) : Int) := by rw [wrap_i64 (by omega) (by omega)]; omega
    have ok1 : ixOk ((i - 1 : Nat) : Int) l.length = true := by rw [ixOk_nat]; simp; omega
    simp only [e0, e1, w1, ok1, Bool.or_true, ck_true, Bool.true_and, Int.toNat_natCast]
    generalize oneS (l.getD i default) = A
    generalize Op.bytesLess (l.getD (i - 1) default).Name (l.getD i default).Name = B
    cases A <;> cases B <;> rfl
  · have e0 : decide ((0 : Int) < (i : Int)) = false := by simpa using h0
    have e1 : decide (0 < i) = false := by simpa using h0
    simp only [e0, e1, Bool.false_and, Bool.and_false, Bool.not_false, Bool.true_or, ck_true, Bool.or_false, Bool.and_true]
    generalize oneS (l.getD i default) = A
    cases A <;> rfl

theorem ValidStars_is {l : List Star} (hl : l.length ≤ 1099511627776) : impl_ValidStars l = some (goodS l && decide (l.length ≤ 60)) := by
  unfold impl_ValidStars impl_rising_impl_Star__impl_isStar__impl_starName
  by_cases h : 60 < (l.length : Int)
  · have e : decide (l.length ≤ 60) = false := by simp; omega
    simp [h, e]
  · have e : decide (l.length ≤ 60) = true := by simp; omega
    simp only [h, decide_false, Bool.false_eq_true, if_false]
    rw [while_all (step := impl_rising_impl_Star__impl_isStar__impl_starName_l1 l l (l.length : Int)) (okS l) l.length (goodS l) (yes := .inl ()) (no := .inr false) (by unfold goodS; simp) (fun i hi => rising_step hl hi) (by simp [impl_rising_impl_Star__impl_isStar__impl_starName_l1])]
    simp only [Option.bind_some, ite_b, e]
    cases goodS l <;> rfl

def hasS (l : List Star) (x : List UInt8) : Bool := l.any fun s => s.Name == x

theorem l04Find_is {l : List Star} (hl : l.length ≤ 1099511627776) (x : List UInt8) : ∃ z, spec_l04Find l x = some z ∧ decide (z < 0) = !hasS l x := by
  unfold spec_l04Find hasS
  rw [while_find (step := spec_l04Find_l1 l x) (fun k => (l.getD k default).Name == x) (fun k => (k : Int)) l.length
    (fun k hk => by
      simp only [spec_l04Find_l1, ixOk_nat, hk, decide_true, ck_true, Int.ofNat_lt, if_true, Int.toNat_natCast, wrap_nat1 (show k < 9223372036854775807 by omega)]
      cases ((l.getD k default).Name == x) <;> rfl)
    (by simp [spec_l04Find_l1]), ← find_any l (fun s => s.Name == x)]
  cases (List.range l.length).find? (fun k => (l.getD k default).Name == x) with
  | none => exact ⟨-1, rfl, rfl⟩
  | some j => exact ⟨(j : Int), rfl, by simp⟩

theorem hasStar_is {l : List Star} (hl : l.length ≤ 1099511627776) (x : List UInt8) : impl_hasStar l x = some (hasS l x) := by
  unfold impl_hasStar slices_ContainsFunc_impl_Star_impl_Star__impl_hasStar_c1 slices_IndexFunc_impl_Star_impl_Star__impl_hasStar_c1 hasS
  rw [while_find (step := slices_IndexFunc_impl_Star_impl_Star__impl_hasStar_c1_l1 l x (l.length : Int)) (fun k => (l.getD k default).Name == x) (fun k => (k : Int)) l.length
    (fun k hk => by
      simp only [slices_IndexFunc_impl_Star_impl_Star__impl_hasStar_c1_l1, impl_hasStar_c1, ixOk_nat, hk, decide_true, ck_true, Int.ofNat_lt, if_true, Int.toNat_natCast, wrap_nat1 (show k < 9223372036854775807 by omega), Option.bind_some]
      cases ((l.getD k default).Name == x) <;> rfl)
    (by simp [slices_IndexFunc_impl_Star_impl_Star__impl_hasStar_c1_l1]), ← find_any l (fun s => s.Name == x)]
  cases (List.range l.length).find? (fun k => (l.getD k default).Name == x) with
  | none => rfl
  | some j => simp

def starsB (d : Desk) : Bool := (List.range d.Estimates.length).all fun i => hasS d.Stars (d.Estimates.getD i default).Star

noncomputable def deskB (d : Desk) : Bool := (((goodS d.Stars && decide (d.Stars.length ≤ 60)) && (goodE d.Estimates && decide (d.Estimates.length ≤ 100))) && decide (codeP d.Log = 0)) && starsB d

theorem l28Ok_is {d : Desk} (h1 : d.Stars.length ≤ 1048576) (h2 : d.Estimates.length ≤ 1048576) (h3 : d.Log.length ≤ 1048576) : spec_l28Ok d = some (deskB d) := by
  unfold spec_l28Ok deskB
  obtain ⟨r, e1, _⟩ := l27Code_is h3
  simp only [e1, Option.bind_some, l04Ok_is (l := d.Stars) (by omega), l06Ok_is (l := d.Estimates) (by omega), Option.isSome_some, Bool.or_true, ck_true, Option.getD_some]
  have hc : (codeP d.Log == 0) = decide (codeP d.Log = 0) := by rw [Bool.eq_iff_iff]; simp
  rw [hc, while_all (step := spec_l28Ok_l1 d) (fun i => hasS d.Stars (d.Estimates.getD i default).Star) d.Estimates.length (starsB d) (yes := .inl ()) (no := .inr false) (by unfold starsB; simp) (fun i hi => by
    obtain ⟨z, e2, e3⟩ := l04Find_is (l := d.Stars) (by omega) (d.Estimates.getD i default).Star
    simp only [spec_l28Ok_l1, ixOk_nat, hi, decide_true, ck_true, Int.ofNat_lt, if_true, Int.toNat_natCast, wrap_nat1 (show i < 9223372036854775807 by omega), e2, Option.bind_some, e3]
    cases hasS d.Stars (d.Estimates.getD i default).Star <;> rfl) (by simp [spec_l28Ok_l1])]
  generalize (goodS d.Stars && decide (d.Stars.length ≤ 60)) = A
  generalize (goodE d.Estimates && decide (d.Estimates.length ≤ 100)) = B
  generalize decide (codeP d.Log = 0) = C
  simp only [Option.bind_some, ite_b]
  cases A <;> cases B <;> cases C <;> cases starsB d <;> rfl

theorem ValidDesk_is {d : Desk} (h1 : d.Stars.length ≤ 1048576) (h2 : d.Estimates.length ≤ 1048576) (h3 : d.Log.length ≤ 1048576) : impl_ValidDesk d = some (deskB d) := by
  unfold impl_ValidDesk deskB
  obtain ⟨es, e1, _⟩ := EntriesOf_is h3
  simp only [e1, Option.bind_some, ValidStars_is (l := d.Stars) (by omega), ValidEstimates_is (l := d.Estimates) (by omega), Option.isSome_some, Bool.or_true, ck_true, Option.getD_some]
  have hc : (codeP d.Log == 0) = decide (codeP d.Log = 0) := by rw [Bool.eq_iff_iff]; simp
  rw [hc, while_all (step := impl_ValidDesk_l1 d d.Estimates (d.Estimates.length : Int)) (fun i => hasS d.Stars (d.Estimates.getD i default).Star) d.Estimates.length (starsB d) (yes := .inl ()) (no := .inr false) (by unfold starsB; simp) (fun i hi => by
    simp only [impl_ValidDesk_l1, ixOk_nat, hi, decide_true, ck_true, Int.ofNat_lt, if_true, Int.toNat_natCast, wrap_nat1 (show i < 9223372036854775807 by omega), hasStar_is (l := d.Stars) (by omega), Option.bind_some]
    cases hasS d.Stars (d.Estimates.getD i default).Star <;> rfl) (by simp [impl_ValidDesk_l1])]
  generalize (goodS d.Stars && decide (d.Stars.length ≤ 60)) = A
  generalize (goodE d.Estimates && decide (d.Estimates.length ≤ 100)) = B
  generalize decide (codeP d.Log = 0) = C
  simp only [Option.bind_some, ite_b]
  cases A <;> cases B <;> cases C <;> cases starsB d <;> rfl

end Go.Proofs.YtbdghipedlldbaaGreatDoor
