/- What typed forms say: dates and their numbers. No condition. -/
import Derived.Test.YtmpmmodbigjdgaaDoorDCL
import Derived.Test.YtmpmmodbigjdgaaDoorEngTD
namespace Go.Proofs.YtmpmmodbigjdgaaDoor
open Go Go.RowKit
set_option linter.unusedSimpArgs false
set_option linter.unusedVariables false

def leapP (y : Int) : Bool := (y % 4 == 0 && !(y % 100 == 0)) || y % 400 == 0
def ydP (y : Int) : Int := if leapP y = true then 366 else 365
def mdP (y m : Int) : Int := if m = 4 ∨ m = 6 ∨ m = 9 ∨ m = 11 then 30 else if m = 2 then ydP y - 337 else 31
def startP (y : Int) : Int := 365 * (y - 2001) + (y - 2001) / 4 - (y - 2001) / 100 + (y - 2001) / 400
def befP (y : Int) : Nat → Int
  | 0 => 0
  | k + 1 => befP y k + mdP y ((k + 1 : Nat) : Int)
def numD (d : Date) : Int := startP d.Year + befP d.Year (d.Month - 1).toNat + d.Day - 1
def goodD (d : Date) : Prop := 2001 ≤ d.Year ∧ 1 ≤ d.Month ∧ d.Month ≤ 12 ∧ 1 ≤ d.Day ∧ d.Day ≤ mdP d.Year d.Month
def validD (d : Date) : Bool := decide (2001 ≤ d.Year) && decide (d.Year ≤ 2300) && decide (1 ≤ d.Month) && decide (d.Month ≤ 12) && decide (1 ≤ d.Day) && decide (d.Day ≤ mdP d.Year d.Month) && decide (numD d ≤ 100000)

theorem leapP_iff (y : Int) : leapP y = true ↔ (y % 4 = 0 ∧ ¬ y % 100 = 0) ∨ y % 400 = 0 := by
  simp [leapP]

theorem ydP_cases (y : Int) : ydP y = 365 ∨ ydP y = 366 := by unfold ydP; split <;> simp

theorem startP_succ {y : Int} (h : 2001 ≤ y) : startP (y + 1) = startP y + ydP y := by
  unfold startP ydP
  by_cases c : leapP y = true
  · rw [if_pos c]; rw [leapP_iff] at c; omega
  · rw [if_neg c]; rw [leapP_iff] at c; omega

theorem startP_mono : ∀ (n : Nat) {y : Int}, 2001 ≤ y → startP y + 365 * n ≤ startP (y + n)
  | 0, y, h => by simp
  | n + 1, y, h => by
    have := startP_mono n h
    have e := startP_succ (y := y + n) (by omega)
    have := ydP_cases (y + n)
    rw [show y + ((n + 1 : Nat) : Int) = y + n + 1 by omega, e]
    omega

theorem startP_lt {y z : Int} (h : 2001 ≤ y) (hz : y < z) : startP (y + 1) ≤ startP z := by
  have := startP_mono (z - (y + 1)).toNat (y := y + 1) (by omega)
  rw [show y + 1 + ((z - (y + 1)).toNat : Int) = z by omega] at this
  omega

theorem mdP_pos (y m : Int) : 28 ≤ mdP y m ∧ mdP y m ≤ 31 := by
  have := ydP_cases y
  unfold mdP
  split
  · omega
  · split <;> omega

theorem befP_mono (y : Int) : ∀ {j k : Nat}, j ≤ k → befP y j ≤ befP y k
  | j, 0, h => by have : j = 0 := by omega
                  subst this; exact Int.le_refl _
  | j, k + 1, h => by
    rcases Nat.lt_or_ge j (k + 1) with c | c
    · have := befP_mono y (j := j) (k := k) (by omega)
      have := mdP_pos y ((k + 1 : Nat) : Int)
      simp only [befP]; omega
    · have : j = k + 1 := by omega
      subst this; exact Int.le_refl _

theorem befP_all (y : Int) : befP y 12 = ydP y := by
  simp only [befP, mdP]
  have := ydP_cases y
  simp
  omega

theorem befP_small (y : Int) : ∀ k : Nat, 0 ≤ befP y k ∧ befP y k ≤ 31 * k
  | 0 => by simp [befP]
  | k + 1 => by
    have := befP_small y k
    have := mdP_pos y ((k + 1 : Nat) : Int)
    simp only [befP]; omega

theorem good_range {d : Date} (h : goodD d) : startP d.Year ≤ numD d ∧ numD d < startP (d.Year + 1) := by
  obtain ⟨h1, h2, h3, h4, h5⟩ := h
  have e : (((d.Month - 1).toNat + 1 : Nat) : Int) = d.Month := by omega
  have e1 : befP d.Year ((d.Month - 1).toNat + 1) = befP d.Year (d.Month - 1).toNat + mdP d.Year d.Month := by
    simp only [befP]; rw [e]
  have e2 := befP_mono d.Year (j := (d.Month - 1).toNat + 1) (k := 12) (by omega)
  have e3 := befP_small d.Year (d.Month - 1).toNat
  rw [befP_all] at e2
  rw [startP_succ h1]
  unfold numD
  omega

theorem good_order {d e : Date} (hd : goodD d) (he : goodD e) (h : numD d < numD e) : d.Year < e.Year ∨ (e.Year = d.Year ∧ (d.Month < e.Month ∨ (e.Month = d.Month ∧ e.Day - d.Day = numD e - numD d))) := by
  have r1 := good_range hd
  have r2 := good_range he
  rcases Int.lt_or_le d.Year e.Year with c | c
  · exact .inl c
  right
  have hy : e.Year = d.Year := by
    rcases Int.lt_or_le e.Year d.Year with c2 | c2
    · have := startP_lt he.1 c2; omega
    · omega
  refine ⟨hy, ?_⟩
  rcases Int.lt_or_le d.Month e.Month with c2 | c2
  · exact .inl c2
  right
  obtain ⟨h1, h2, h3, h4, h5⟩ := hd
  obtain ⟨g1, g2, g3, g4, g5⟩ := he
  have hm : e.Month = d.Month := by
    rcases Int.lt_or_le e.Month d.Month with c3 | c3
    · exfalso
      have e0 : (((e.Month - 1).toNat + 1 : Nat) : Int) = e.Month := by omega
      have e1 : befP d.Year ((e.Month - 1).toNat + 1) = befP d.Year (e.Month - 1).toNat + mdP d.Year e.Month := by
        simp only [befP]; rw [e0]
      have e2 := befP_mono d.Year (j := (e.Month - 1).toNat + 1) (k := (d.Month - 1).toNat) (by omega)
      unfold numD at h
      rw [hy] at h g5
      omega
    · omega
  refine ⟨hm, ?_⟩
  unfold numD
  rw [hy, hm]; omega

theorem good_inj {d e : Date} (hd : goodD d) (he : goodD e) (h : numD d = numD e) : d = e := by
  have r1 := good_range hd
  have r2 := good_range he
  have hy : e.Year = d.Year := by
    rcases Int.lt_trichotomy e.Year d.Year with c2 | c2 | c2
    · have := startP_lt he.1 c2; omega
    · exact c2
    · have := startP_lt hd.1 c2; omega
  obtain ⟨h1, h2, h3, h4, h5⟩ := hd
  obtain ⟨g1, g2, g3, g4, g5⟩ := he
  have key : ∀ {a b x z : Int} (y : Int), 1 ≤ a → a < b → x ≤ mdP y a → 1 ≤ z → befP y (a - 1).toNat + x < befP y (b - 1).toNat + z := by
    intro a b x z y ha hab hx hz
    have e0 : (((a - 1).toNat + 1 : Nat) : Int) = a := by omega
    have e1 : befP y ((a - 1).toNat + 1) = befP y (a - 1).toNat + mdP y a := by
      simp only [befP]; rw [e0]
    have e2 := befP_mono y (j := (a - 1).toNat + 1) (k := (b - 1).toNat) (by omega)
    omega
  unfold numD at h
  rw [hy] at h g5
  have hm : e.Month = d.Month := by
    rcases Int.lt_trichotomy e.Month d.Month with c2 | c2 | c2
    · have := key d.Year g2 c2 g5 h4; omega
    · exact c2
    · have := key d.Year h2 c2 h5 g4; omega
  rw [hm] at h
  have hd : d.Day = e.Day := by omega
  cases d; cases e; simp only at hy hm hd; subst hy hm hd; rfl

theorem startP_2301 : startP 2301 = 109572 := by decide
theorem startP_2001 : startP 2001 = 0 := by decide

theorem year_small {y : Int} (h1 : 2001 ≤ y) (h2 : startP y ≤ 100000) : y ≤ 2300 := by
  rcases Int.lt_or_le y 2301 with c | c
  · omega
  · have := startP_mono (y - 2301).toNat (y := 2301) (by omega)
    rw [show (2301 : Int) + ((y - 2301).toNat : Int) = y by omega, startP_2301] at this
    omega

theorem validD_iff {d : Date} : validD d = true ↔ goodD d ∧ d.Year ≤ 2300 ∧ numD d ≤ 100000 := by
  unfold validD goodD
  simp only [Bool.and_eq_true, decide_eq_true_eq]
  constructor
  · rintro ⟨⟨⟨⟨⟨⟨a, b⟩, c⟩, d⟩, e⟩, f⟩, g⟩; exact ⟨⟨a, c, d, e, f⟩, b, g⟩
  · rintro ⟨⟨a, c, d, e, f⟩, b, g⟩; exact ⟨⟨⟨⟨⟨⟨a, b⟩, c⟩, d⟩, e⟩, f⟩, g⟩

theorem startP_small {y : Int} (h1 : 2001 ≤ y) (h2 : y ≤ 2301) : 0 ≤ startP y ∧ startP y ≤ 109572 := by
  have a := startP_mono (y - 2001).toNat (y := 2001) (by omega)
  have b := startP_mono (2301 - y).toNat (y := y) (by omega)
  rw [show (2001 : Int) + ((y - 2001).toNat : Int) = y by omega, startP_2001] at a
  rw [show y + ((2301 - y).toNat : Int) = 2301 by omega, startP_2301] at b
  omega

/-! ### The functions -/

theorem in_is (n a b : Int) : impl_in n a b = some (decide (a ≤ n) && decide (n ≤ b)) := id rfl
theorem l00In_is (n a b : Int) : spec_l00In n a b = some (decide (a ≤ n) && decide (n ≤ b)) := id rfl

theorem tm {a b : Int} (h : 0 ≤ a) : a.tmod b = a % b := Int.tmod_eq_emod_of_nonneg h
theorem td {a b : Int} (h : 0 ≤ a) : a.tdiv b = a / b := Int.tdiv_eq_ediv_of_nonneg h

theorem isLeap_is {y : Int} (h : 0 ≤ y) : impl_isLeap y = some (leapP y) := by
  unfold impl_isLeap leapP
  simp only [nz_of (show (4 : Int) ≠ 0 by decide), nz_of (show (100 : Int) ≠ 0 by decide), nz_of (show (400 : Int) ≠ 0 by decide), Bool.or_true, ck_true, tm h]

theorem l03Leap_is {y : Int} (h : 0 ≤ y) : spec_l03Leap y = some (leapP y) := isLeap_is h

theorem yearDays_is {y : Int} (h : 0 ≤ y) : impl_yearDays y = some (ydP y) := by
  unfold impl_yearDays ydP
  rw [isLeap_is h]
  simp only [Option.bind_some]
  split <;> rfl

theorem monthDays_is {y m : Int} (h : 0 ≤ y) : impl_monthDays y m = some (mdP y m) := by
  unfold impl_monthDays mdP
  have hy := ydP_cases y
  have w : IntKind.i64.wrap (ydP y - 337) = ydP y - 337 := wrap_i64 (by omega) (by omega)
  simp only [beq_iff_eq, yearDays_is h, Option.bind_some, w]
  repeat' split
  all_goals first | rfl | (exfalso; omega)

theorem l03Days_is {y m : Int} (h : 0 ≤ y) (h1 : 1 ≤ m) (h2 : m ≤ 12) : spec_l03Days y m = some (mdP y m) := by
  unfold spec_l03Days
  have w : IntKind.i64.wrap (m - 1) = m - 1 := wrap_i64 (by omega) (by omega)
  rw [l03Leap_is h]
  simp only [Option.isSome_some, Bool.or_true, ck_true, Option.getD_some, w]
  by_cases h3 : m = 2
  · subst h3
    cases hl : leapP y
    · have e : mdP y 2 = 28 := by simp [mdP, ydP, hl]
      rw [e]; rfl
    · have e : mdP y 2 = 29 := by simp [mdP, ydP, hl]
      rw [e]; rfl
  · have hb : (m == 2) = false := by simpa using h3
    have : m = 1 ∨ m = 3 ∨ m = 4 ∨ m = 5 ∨ m = 6 ∨ m = 7 ∨ m = 8 ∨ m = 9 ∨ m = 10 ∨ m = 11 ∨ m = 12 := by omega
    rcases this with rfl | rfl | rfl | rfl | rfl | rfl | rfl | rfl | rfl | rfl | rfl <;> rfl

theorem l03Start_is {y : Int} (h1 : 2001 ≤ y) (h2 : y ≤ 1000000) : spec_l03Start y = some (startP y) := by
  unfold spec_l03Start startP
  have w0 : IntKind.i64.wrap (y - 2001) = y - 2001 := wrap_i64 (by omega) (by omega)
  rw [w0]
  generalize hn : y - 2001 = n
  have h0 : 0 ≤ n := by omega
  have hn2 : n ≤ 1000000 := by omega
  rw [td h0, td h0, td h0, wrap_i64 (n := 365 * n) (by omega) (by omega), wrap_i64 (n := n / 4) (by omega) (by omega), wrap_i64 (n := n / 100) (by omega) (by omega), wrap_i64 (n := n / 400) (by omega) (by omega),
    wrap_i64 (n := 365 * n + n / 4) (by omega) (by omega), wrap_i64 (n := 365 * n + n / 4 - n / 100) (by omega) (by omega), wrap_i64 (by omega) (by omega)]
  rfl

theorem numberOf_is {d : Date} (h1 : 2001 ≤ d.Year) (h2 : d.Year ≤ 2300) (h3 : 1 ≤ d.Month) (h4 : d.Month ≤ 12) (h5 : 1 ≤ d.Day) (h6 : d.Day ≤ 31) : impl_numberOf d = some (numD d) := by
  unfold impl_numberOf
  have w0 : IntKind.i64.wrap (d.Day - 1) = d.Day - 1 := wrap_i64 (by omega) (by omega)
  rw [w0]
  have l1 : whileE (impl_numberOf_l1 d) (d.Day - 1, 2001) = some (startP d.Year + d.Day - 1) := by
    have := whileE_run (step := impl_numberOf_l1 d) (fun i => (startP (2001 + i) + d.Day - 1, 2001 + (i : Int))) (d.Year - 2001).toNat (r := startP d.Year + d.Day - 1) (fun i hi => by
      have s := startP_small (y := 2001 + i) (by omega) (by omega)
      have s2 := startP_succ (y := 2001 + i) (by omega)
      have hy := ydP_cases (2001 + i)
      have hlt : (2001 : Int) + (i : Int) < d.Year := by omega
      simp only [impl_numberOf_l1, hlt, decide_true, if_true, yearDays_is (show (0 : Int) ≤ 2001 + i by omega), Option.bind_some]
      rw [wrap_i64 (by omega) (by omega), wrap_i64 (by omega) (by omega), show (2001 : Int) + ((i + 1 : Nat) : Int) = 2001 + i + 1 by omega, s2]
      congr 3; omega) (by
      have e : (2001 : Int) + ((d.Year - 2001).toNat : Int) = d.Year := by omega
      simp only [impl_numberOf_l1, e]
      simp)
    simpa [startP_2001] using this
  rw [l1]
  simp only [Option.bind_some]
  have s0 := startP_small h1 (show d.Year ≤ 2301 by omega)
  have l2 : whileE (impl_numberOf_l2 d) (startP d.Year + d.Day - 1, 1) = some (numD d) := by
    have := whileE_run (step := impl_numberOf_l2 d) (fun i => (startP d.Year + d.Day - 1 + befP d.Year i, 1 + (i : Int))) (d.Month - 1).toNat (r := numD d) (fun i hi => by
      have s := befP_small d.Year i
      have hm := mdP_pos d.Year (1 + (i : Int))
      have hlt : (1 : Int) + (i : Int) < d.Month := by omega
      simp only [impl_numberOf_l2, hlt, decide_true, if_true, monthDays_is (show (0 : Int) ≤ d.Year by omega), Option.bind_some]
      rw [wrap_i64 (by omega) (by omega), wrap_i64 (by omega) (by omega)]
      simp only [befP]
      rw [show ((i + 1 : Nat) : Int) = 1 + (i : Int) by omega]
      congr 3 <;> omega) (by
      have e : (1 : Int) + ((d.Month - 1).toNat : Int) = d.Month := by omega
      simp only [impl_numberOf_l2, e]
      simp [numD]; omega)
    simpa [befP] using this
  rw [l2]; rfl

theorem l03Number_is {d : Date} (h1 : 2001 ≤ d.Year) (h2 : d.Year ≤ 2300) (h3 : 1 ≤ d.Month) (h4 : d.Month ≤ 12) (h5 : 1 ≤ d.Day) (h6 : d.Day ≤ 31) : spec_l03Number d = some (numD d) := by
  unfold spec_l03Number
  rw [l03Start_is h1 (by omega)]
  simp only [Option.bind_some]
  have s0 := startP_small h1 (show d.Year ≤ 2301 by omega)
  have s9 := befP_small d.Year (d.Month - 1).toNat
  have l2 : whileE (spec_l03Number_l1 d) (startP d.Year, 1) = some (startP d.Year + befP d.Year (d.Month - 1).toNat) := by
    have := whileE_run (step := spec_l03Number_l1 d) (fun i => (startP d.Year + befP d.Year i, 1 + (i : Int))) (d.Month - 1).toNat (r := startP d.Year + befP d.Year (d.Month - 1).toNat) (fun i hi => by
      have s := befP_small d.Year i
      have hm := mdP_pos d.Year (1 + (i : Int))
      have hlt : (1 : Int) + (i : Int) < d.Month := by omega
      simp only [spec_l03Number_l1, hlt, decide_true, if_true, l03Days_is (show (0 : Int) ≤ d.Year by omega) (show (1 : Int) ≤ 1 + i by omega) (show 1 + (i : Int) ≤ 12 by omega), Option.bind_some]
      rw [wrap_i64 (by omega) (by omega), wrap_i64 (by omega) (by omega)]
      simp only [befP]
      rw [show ((i + 1 : Nat) : Int) = 1 + (i : Int) by omega]
      congr 3 <;> omega) (by
      have e : (1 : Int) + ((d.Month - 1).toNat : Int) = d.Month := by omega
      simp only [spec_l03Number_l1, e]
      simp)
    simpa [befP] using this
  rw [l2]
  simp only [Option.bind_some]
  rw [wrap_i64 (n := startP d.Year + befP d.Year (d.Month - 1).toNat + d.Day) (by omega) (by omega), wrap_i64 (by omega) (by omega)]
  rfl

theorem impl_ValidDate_is (d : Date) : impl_ValidDate d = some (validD d) := by
  unfold impl_ValidDate
  simp only [in_is, Option.bind_some, Option.isSome_some, Option.getD_some, Bool.or_true, ck_true]
  by_cases h1 : 2001 ≤ d.Year
  · rw [monthDays_is (show (0 : Int) ≤ d.Year by omega)]
    simp only [Option.isSome_some, Option.getD_some, Bool.or_true, ck_true]
    by_cases hall : d.Year ≤ 2300 ∧ 1 ≤ d.Month ∧ d.Month ≤ 12 ∧ 1 ≤ d.Day ∧ d.Day ≤ mdP d.Year d.Month
    · obtain ⟨h2, h3, h4, h5, h6⟩ := hall
      have := mdP_pos d.Year d.Month
      rw [numberOf_is h1 h2 h3 h4 h5 (by omega)]
      simp [validD, h1, h2, h3, h4, h5, h6, ck]
    · have e : validD d = false := by
        cases hv : validD d with
        | false => rfl
        | true => exact absurd (by obtain ⟨⟨a, b, c, e, f⟩, g, i⟩ := validD_iff.1 hv; exact ⟨g, b, c, e, f⟩) hall
      have e2 : (decide (2001 ≤ d.Year) && decide (d.Year ≤ 2300) && (decide (1 ≤ d.Month) && decide (d.Month ≤ 12)) && (decide (1 ≤ d.Day) && decide (d.Day ≤ mdP d.Year d.Month))) = false := by
        cases hv : (decide (2001 ≤ d.Year) && decide (d.Year ≤ 2300) && (decide (1 ≤ d.Month) && decide (d.Month ≤ 12)) && (decide (1 ≤ d.Day) && decide (d.Day ≤ mdP d.Year d.Month))) with
        | false => rfl
        | true => exact absurd (by simp at hv; omega) hall
      rw [e, e2]; simp [ck]
  · have e : validD d = false := by simp [validD, h1]
    rw [e]; simp [h1, ck]

theorem spec_ValidDate_is (d : Date) : spec_ValidDate d = some (validD d) := by
  unfold spec_ValidDate spec_l03Date
  simp only [l00In_is, Option.bind_some, Option.isSome_some, Option.getD_some, Bool.or_true, ck_true]
  by_cases h1 : 2001 ≤ d.Year ∧ d.Year ≤ 2300 ∧ 1 ≤ d.Month ∧ d.Month ≤ 12
  · obtain ⟨h1, h2, h3, h4⟩ := h1
    rw [l03Days_is (show (0 : Int) ≤ d.Year by omega) h3 h4]
    simp only [Option.isSome_some, Option.getD_some, Bool.or_true, ck_true, Option.bind_some]
    by_cases hall : 1 ≤ d.Day ∧ d.Day ≤ mdP d.Year d.Month
    · obtain ⟨h5, h6⟩ := hall
      have := mdP_pos d.Year d.Month
      rw [l03Number_is h1 h2 h3 h4 h5 (by omega)]
      simp [validD, h1, h2, h3, h4, h5, h6, ck]
    · have e2 : (decide (1 ≤ d.Day) && decide (d.Day ≤ mdP d.Year d.Month)) = false := by
        cases hv : (decide (1 ≤ d.Day) && decide (d.Day ≤ mdP d.Year d.Month)) with
        | false => rfl
        | true => exact absurd (by simpa using hv) hall
      have e : validD d = false := by
        unfold validD
        simp only [Bool.and_assoc]
        rw [← Bool.and_assoc (decide (1 ≤ d.Day)), e2]; simp
      rw [e, e2]; simp [ck]
  · have e : validD d = false := by
      cases hv : validD d with
      | false => rfl
      | true => exact absurd (by obtain ⟨⟨a, b, c, e, f⟩, g, i⟩ := validD_iff.1 hv; exact ⟨a, g, b, c⟩) h1
    have e2 : (decide (2001 ≤ d.Year) && decide (d.Year ≤ 2300) && (decide (1 ≤ d.Month) && decide (d.Month ≤ 12))) = false := by
      cases hv : (decide (2001 ≤ d.Year) && decide (d.Year ≤ 2300) && (decide (1 ≤ d.Month) && decide (d.Month ≤ 12))) with
      | false => rfl
      | true => exact absurd (by simp at hv; omega) h1
    rw [e]
    by_cases hy : 2001 ≤ d.Year ∧ d.Year ≤ 2300
    · have hm : (decide (1 ≤ d.Month) && decide (d.Month ≤ 12)) = false := by
        simpa [hy.1, hy.2] using e2
      simp [hy.1, hy.2, hm, ck]
    · have hm : (decide (2001 ≤ d.Year) && decide (d.Year ≤ 2300)) = false := by
        cases hv : (decide (2001 ≤ d.Year) && decide (d.Year ≤ 2300)) with
        | false => rfl
        | true => exact absurd (by simpa using hv) hy
      simp [hm, ck]

theorem impl_DayNumber_is (d : Date) : impl_DayNumber d = some (if validD d = true then (numD d, 0) else (0, 1)) := by
  unfold impl_DayNumber
  rw [impl_ValidDate_is, Option.bind_some]
  cases hv : validD d
  · simp
  · obtain ⟨⟨a, b, c, e, f⟩, g, i⟩ := validD_iff.1 hv
    have := mdP_pos d.Year d.Month
    rw [numberOf_is a g b c e (by omega)]
    simp

theorem spec_DayNumber_is (d : Date) : spec_DayNumber d = some (if validD d = true then (numD d, 0) else (0, 1)) := by
  unfold spec_DayNumber
  rw [spec_ValidDate_is, Option.bind_some]
  cases hv : validD d
  · simp
  · obtain ⟨⟨a, b, c, e, f⟩, g, i⟩ := validD_iff.1 hv
    have := mdP_pos d.Year d.Month
    rw [l03Number_is a g b c e (by omega)]
    simp

/-- The date of a day. -/
theorem impl_DateOf_is {day : Int} (h0 : 0 ≤ day) (h1 : day ≤ 100000) : ∃ d, goodD d ∧ numD d = day ∧ impl_DateOf day = some (d, 0) := by
  obtain ⟨y, hy, q⟩ := while_post (step := impl_DateOf_l1 (Date.mk 0 0 0)) (fun s => s.2.Month = 1 ∧ s.2.Day = 0 ∧ 2001 ≤ s.2.Year ∧ 0 ≤ s.1 ∧ startP s.2.Year + s.1 = day) (fun s => s.2.Month = 1 ∧ s.2.Day = 0 ∧ 2001 ≤ s.2.Year ∧ 0 ≤ s.1 ∧ startP s.2.Year + s.1 = day ∧ s.1 < ydP s.2.Year) (fun s => s.1.toNat) (by
    rintro ⟨k, d⟩ ⟨a, b, c, e, f⟩
    simp only at a b c e f
    have hyd := ydP_cases d.Year
    have s := year_small c (by omega)
    have s1 := startP_small c (by omega)
    simp only [impl_DateOf_l1, yearDays_is (show (0 : Int) ≤ d.Year by omega), Option.bind_some]
    by_cases hk : ydP d.Year ≤ k
    · simp only [hk, decide_true, if_true]
      rw [wrap_i64 (by omega) (by omega), wrap_i64 (by omega) (by omega)]
      refine .inl ⟨_, rfl, ⟨a, b, by show 2001 ≤ d.Year + 1; omega, by show 0 ≤ k - ydP d.Year; omega, ?_⟩, ?_⟩
      · show startP (d.Year + 1) + (k - ydP d.Year) = day
        rw [startP_succ c]; omega
      · show (k - ydP d.Year).toNat < k.toNat; omega
    · simp only [hk, decide_false, Bool.false_eq_true, if_false]
      exact .inr ⟨_, rfl, a, b, c, e, f, by show k < ydP d.Year; omega⟩) (s := (day, Date.mk 2001 1 0)) ⟨rfl, rfl, Int.le_refl _, h0, by show startP 2001 + day = day; rw [startP_2001]; omega⟩
  obtain ⟨a, b, c, e, f, g⟩ := q
  have s2 := year_small c (by omega)
  have s3 := startP_small c (by omega)
  obtain ⟨z, hz, q⟩ := while_post (step := impl_DateOf_l2 (Date.mk 0 0 0)) (fun s => s.2.Year = y.2.Year ∧ s.2.Day = 0 ∧ 1 ≤ s.2.Month ∧ s.2.Month ≤ 12 ∧ 0 ≤ s.1 ∧ befP y.2.Year (s.2.Month - 1).toNat + s.1 = y.1) (fun s => s.2.Year = y.2.Year ∧ s.2.Day = 0 ∧ 1 ≤ s.2.Month ∧ s.2.Month ≤ 12 ∧ 0 ≤ s.1 ∧ befP y.2.Year (s.2.Month - 1).toNat + s.1 = y.1 ∧ s.1 < mdP s.2.Year s.2.Month) (fun s => s.1.toNat) (by
    rintro ⟨k, d⟩ ⟨a1, b1, c1, c2, e1, f1⟩
    simp only at a1 b1 c1 c2 e1 f1
    have hmd := mdP_pos d.Year d.Month
    have hb := befP_small y.2.Year (d.Month - 1).toNat
    have hyd := ydP_cases y.2.Year
    simp only [impl_DateOf_l2, monthDays_is (show (0 : Int) ≤ d.Year by omega), Option.bind_some]
    by_cases hk : mdP d.Year d.Month ≤ k
    · simp only [hk, decide_true, if_true]
      rw [wrap_i64 (by omega) (by omega), wrap_i64 (by omega) (by omega)]
      have e0 : (((d.Month - 1).toNat + 1 : Nat) : Int) = d.Month := by omega
      have e1 : befP y.2.Year ((d.Month - 1).toNat + 1) = befP y.2.Year (d.Month - 1).toNat + mdP y.2.Year d.Month := by
        simp only [befP]; rw [e0]
      have hm12 : d.Month < 12 := by
        rcases Int.lt_or_le d.Month 12 with c | c
        · exact c
        · exfalso
          have h12 : (d.Month - 1).toNat + 1 = 12 := by omega
          rw [h12, befP_all] at e1
          rw [a1] at hk
          omega
      refine .inl ⟨_, rfl, ⟨a1, b1, by show 1 ≤ d.Month + 1; omega, by show d.Month + 1 ≤ 12; omega, by show 0 ≤ k - mdP d.Year d.Month; omega, ?_⟩, ?_⟩
      · show befP y.2.Year (d.Month + 1 - 1).toNat + (k - mdP d.Year d.Month) = y.1
        rw [show (d.Month + 1 - 1).toNat = (d.Month - 1).toNat + 1 by omega, e1, a1]; omega
      · show (k - mdP d.Year d.Month).toNat < k.toNat; omega
    · simp only [hk, decide_false, Bool.false_eq_true, if_false]
      exact .inr ⟨_, rfl, a1, b1, c1, c2, e1, f1, by show k < mdP d.Year d.Month; omega⟩) (s := (y.1, y.2)) ⟨rfl, b, by show 1 ≤ y.2.Month; omega, by show y.2.Month ≤ 12; omega, e, by show befP y.2.Year (y.2.Month - 1).toNat + y.1 = y.1; rw [a]; simp [befP]⟩
  obtain ⟨a1, b1, c1, c2, e1, f1, g1⟩ := q
  have hmd := mdP_pos z.2.Year z.2.Month
  refine ⟨Date.mk z.2.Year z.2.Month (z.1 + 1), ⟨by show 2001 ≤ z.2.Year; omega, c1, c2, by show 1 ≤ z.1 + 1; omega, by show z.1 + 1 ≤ mdP z.2.Year z.2.Month; omega⟩, ?_, ?_⟩
  · unfold numD
    simp only [a1]
    omega
  · unfold impl_DateOf
    have hin : (decide (0 ≤ day) && decide (day ≤ 100000)) = true := by simp [h0, h1]
    rw [in_is, hin]
    simp only [Option.bind_some, Bool.not_true, Bool.false_eq_true, if_false, hy, hz]
    rw [wrap_i64 (by omega) (by omega)]

theorem spec_DateOf_is {day : Int} (h0 : 0 ≤ day) (h1 : day ≤ 100000) : ∃ d, goodD d ∧ numD d = day ∧ spec_DateOf day = some (d, 0) := by
  have t1 : day.tdiv 366 = day / 366 := td h0
  have hst : startP (2001 + day / 366) ≤ day := by
    have b := startP_mono (day / 366).toNat (y := 2001) (by omega)
    unfold startP
    omega
  obtain ⟨y, hy, q⟩ := while_post (step := spec_DateOf_l1 day (Date.mk 0 0 0)) (fun s => 2001 ≤ s ∧ startP s ≤ day) (fun s => 2001 ≤ s ∧ startP s ≤ day ∧ day < startP (s + 1)) (fun s => (3000 - s).toNat) (by
    rintro k ⟨a, b⟩
    have s := year_small a (by omega)
    have w : IntKind.i64.wrap (k + 1) = k + 1 := wrap_i64 (by omega) (by omega)
    simp only [spec_DateOf_l1, w, l03Start_is (show (2001 : Int) ≤ k + 1 by omega) (by omega), Option.bind_some]
    by_cases hk : startP (k + 1) ≤ day
    · simp only [hk, decide_true, if_true]
      exact .inl ⟨_, rfl, ⟨by omega, hk⟩, by omega⟩
    · simp only [hk, decide_false, Bool.false_eq_true, if_false]
      exact .inr ⟨_, rfl, a, b, by omega⟩) (s := 2001 + day / 366) ⟨by omega, hst⟩
  obtain ⟨a, b, c⟩ := q
  have s2 := year_small a (by omega)
  have s3 := startP_small a (by omega)
  rw [startP_succ a] at c
  have hyd := ydP_cases y
  obtain ⟨z, hz, q⟩ := while_post (step := spec_DateOf_l2 (Date.mk 0 0 0) y) (fun s => s.Year = y ∧ 1 ≤ s.Month ∧ s.Month ≤ 12 ∧ 1 ≤ s.Day ∧ befP y (s.Month - 1).toNat + s.Day = day - startP y + 1) (fun s => s.Year = y ∧ 1 ≤ s.Month ∧ s.Month ≤ 12 ∧ 1 ≤ s.Day ∧ befP y (s.Month - 1).toNat + s.Day = day - startP y + 1 ∧ s.Day ≤ mdP y s.Month) (fun s => s.Day.toNat) (by
    rintro d ⟨a1, b1, c1, e1, f1⟩
    have hmd := mdP_pos y d.Month
    have hb := befP_small y (d.Month - 1).toNat
    simp only [spec_DateOf_l2, l03Days_is (show (0 : Int) ≤ y by omega) b1 c1, Option.bind_some]
    by_cases hk : mdP y d.Month < d.Day
    · simp only [hk, decide_true, if_true]
      rw [wrap_i64 (by omega) (by omega), wrap_i64 (by omega) (by omega)]
      have e0 : (((d.Month - 1).toNat + 1 : Nat) : Int) = d.Month := by omega
      have e2 : befP y ((d.Month - 1).toNat + 1) = befP y (d.Month - 1).toNat + mdP y d.Month := by
        simp only [befP]; rw [e0]
      have hm12 : d.Month < 12 := by
        rcases Int.lt_or_le d.Month 12 with c3 | c3
        · exact c3
        · exfalso
          have h12 : (d.Month - 1).toNat + 1 = 12 := by omega
          rw [h12, befP_all] at e2
          omega
      refine .inl ⟨_, rfl, ⟨a1, by show 1 ≤ d.Month + 1; omega, by show d.Month + 1 ≤ 12; omega, by show 1 ≤ d.Day - mdP y d.Month; omega, ?_⟩, ?_⟩
      · show befP y (d.Month + 1 - 1).toNat + (d.Day - mdP y d.Month) = _
        rw [show (d.Month + 1 - 1).toNat = (d.Month - 1).toNat + 1 by omega, e2]; omega
      · show (d.Day - mdP y d.Month).toNat < d.Day.toNat; omega
    · simp only [hk, decide_false, Bool.false_eq_true, if_false]
      exact .inr ⟨_, rfl, a1, b1, c1, e1, f1, by omega⟩) (s := Date.mk y 1 (day - startP y + 1)) ⟨rfl, by simp, by simp, by show 1 ≤ day - startP y + 1; omega, by show befP y ((1 : Int) - 1).toNat + _ = _; simp [befP]⟩
  obtain ⟨a1, b1, c1, e1, f1, g1⟩ := q
  refine ⟨z, ⟨by omega, b1, c1, e1, by rw [a1]; exact g1⟩, ?_, ?_⟩
  · unfold numD; rw [a1]; omega
  · unfold spec_DateOf
    have hin : (decide (0 ≤ day) && decide (day ≤ 100000)) = true := by simp [h0, h1]
    rw [l00In_is, hin]
    simp only [Option.bind_some, Bool.not_true, Bool.false_eq_true, if_false, nz_of (show (366 : Int) ≠ 0 by decide), ck_true, t1]
    rw [wrap_i64 (n := day / 366) (by omega) (by omega), wrap_i64 (n := 2001 + day / 366) (by omega) (by omega), hy]
    simp only [Option.bind_some, l03Start_is a (by omega)]
    rw [wrap_i64 (n := day - startP y) (by omega) (by omega), wrap_i64 (by omega) (by omega), hz]
    rfl

theorem DateOf_same (day : Int) : ∃ d e, impl_DateOf day = some (d, e) ∧ spec_DateOf day = some (d, e) ∧ (e = 0 → goodD d ∧ numD d = day ∧ 0 ≤ day ∧ day ≤ 100000) := by
  by_cases h : 0 ≤ day ∧ day ≤ 100000
  · obtain ⟨d, g, n, e⟩ := impl_DateOf_is h.1 h.2
    obtain ⟨d2, g2, n2, e2⟩ := spec_DateOf_is h.1 h.2
    have : d2 = d := good_inj g2 g (by rw [n, n2])
    subst this
    exact ⟨_, _, e, e2, fun _ => ⟨g, n, h.1, h.2⟩⟩
  · have hin : (decide (0 ≤ day) && decide (day ≤ 100000)) = false := by
      cases hv : (decide (0 ≤ day) && decide (day ≤ 100000)) with
      | false => rfl
      | true => exact absurd (by simpa using hv) h
    refine ⟨⟨0, 0, 0⟩, 2, ?_, ?_, fun c => absurd c (by decide)⟩
    · unfold impl_DateOf; rw [in_is, hin]; rfl
    · unfold spec_DateOf; rw [l00In_is, hin]; rfl

theorem WeekdayOf_same : impl_WeekdayOf = spec_WeekdayOf := id rfl

end Go.Proofs.YtmpmmodbigjdgaaDoor
