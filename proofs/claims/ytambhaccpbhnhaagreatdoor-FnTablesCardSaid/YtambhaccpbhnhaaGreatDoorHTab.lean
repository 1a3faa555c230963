/- What typed forms say: plain texts, blanks, the checks and the widths of tables. No condition. -/
import Derived.Test.YtambhaccpbhnhaaGreatDoorTBL
import Derived.Test.YtambhaccpbhnhaaGreatDoorHUtil
import Derived.Test.YtambhaccpbhnhaaGreatDoorEngSM
namespace Go.Proofs.YtambhaccpbhnhaaGreatDoor
open Go Go.RowKit
set_option linter.unusedSimpArgs false
set_option linter.unusedVariables false

theorem all_getD {α : Type} (l : List α) (f : α → Bool) (d : α) : l.all f = true ↔ ∀ i, i < l.length → f (l.getD i d) = true := by
  rw [List.all_eq_true]
  constructor
  · intro h i hi
    rw [getD_lt hi]; exact h _ (List.getElem_mem hi)
  · intro h x hx
    obtain ⟨i, hi, rfl⟩ := List.getElem_of_mem hx
    have := h i hi
    rwa [getD_lt hi] at this

/-! ### Plain texts -/

def plainC (c : UInt8) : Bool := !((decide ((c.toNat : Int) < 32)) || (decide (126 < (c.toNat : Int))))
def plainB (s : List UInt8) : Bool := s.all plainC

theorem isPlain_is {s : List UInt8} (hl : s.length ≤ 1099511627776) : impl_isPlain s = some (plainB s) := by
  unfold impl_isPlain
  rw [while_all (step := impl_isPlain_l1 s (s.length : Int)) (fun i => plainC (s.getD i 0)) s.length (plainB s) (yes := .inl ()) (no := .inr false) (all_getD s plainC 0) (fun i hi => by
    simp only [impl_isPlain_l1, Int.ofNat_lt, hi, decide_true, if_true, ixOk_nat, ck_true, Int.toNat_natCast, wrap_nat1 (show i < 9223372036854775807 by omega)]
    unfold plainC
    generalize ((decide (((s.getD i 0).toNat : Int) < 32)) || (decide (126 < ((s.getD i 0).toNat : Int)))) = c
    cases c <;> rfl) (by simp [impl_isPlain_l1])]
  cases plainB s <;> rfl

theorem l24Plain_is {s : List UInt8} (hl : s.length ≤ 1099511627776) : spec_l24Plain s = some (plainB s) := by
  unfold spec_l24Plain
  rw [while_all (step := spec_l24Plain_l1 s) (fun i => plainC (s.getD i 0)) s.length (plainB s) (yes := .inl ()) (no := .inr false) (all_getD s plainC 0) (fun i hi => by
    simp only [spec_l24Plain_l1, Int.ofNat_lt, hi, decide_true, if_true, ixOk_nat, ck_true, Int.toNat_natCast, wrap_nat1 (show i < 9223372036854775807 by omega)]
    unfold plainC
    generalize ((decide (((s.getD i 0).toNat : Int) < 32)) || (decide (126 < ((s.getD i 0).toNat : Int)))) = c
    cases c <;> rfl) (by simp [spec_l24Plain_l1])]
  cases plainB s <;> rfl

/-! ### Blanks -/

theorem blanks_loop : ∀ (n : Nat) (out : List UInt8), out.length + n ≤ 1000000 → whileE spec_l24Blanks_l1 ((n : Int), out) = some (out ++ List.replicate n 32)
  | 0, out, _ => by rw [whileE_done (r := out) (by simp [spec_l24Blanks_l1])]; simp
  | n + 1, out, h => by
    have e : IntKind.i64.wrap (((n + 1 : Nat) : Int) - 1) = (n : Int) := by rw [wrap_i64 (by omega) (by omega)]; omega
    have hp : decide ((0 : Int) < ((n + 1 : Nat) : Int)) = true := decide_eq_true (by omega)
    rw [whileE_next (s' := ((n : Int), out ++ [32])) (by
      simp only [spec_l24Blanks_l1, hp, if_true, e]
      rw [appOk_of (by simp; omega), ck_true]), blanks_loop n _ (by simp; omega)]
    rw [List.append_assoc, List.replicate_succ]; rfl

theorem Blanks_is {n : Int} (h : n ≤ 100000) : spec_l24Blanks n = some (List.replicate n.toNat 32) := by
  unfold spec_l24Blanks
  by_cases h0 : 0 ≤ n
  · obtain ⟨k, rfl⟩ : ∃ k : Nat, n = (k : Int) := ⟨n.toNat, by omega⟩
    rw [blanks_loop k [] (by simp; omega)]
    simp
  · rw [whileE_done (r := []) (by
      have : decide ((0 : Int) < n) = false := decide_eq_false (by omega)
      simp only [spec_l24Blanks_l1, this, Bool.false_eq_true, if_false])]
    have : n.toNat = 0 := by omega
    rw [this]; rfl

theorem repeat_one (c : UInt8) : ∀ n : Nat, Lib.repeatL [c] n = List.replicate n c
  | 0 => rfl
  | n + 1 => by rw [Lib.repeatL, repeat_one c n, List.replicate_succ]; rfl

theorem Repeat_is {n : Int} (h0 : 0 ≤ n) (h : n ≤ 100000) : hRepeat [32] n = some (List.replicate n.toNat 32) := by
  unfold hRepeat repOk
  rw [decide_eq_true h0, decide_eq_true (show n ≤ 9223372036854775807 by omega), decide_eq_true (show ([32] : List UInt8).length * n.toNat ≤ 140737488355328 by simp; omega), Bool.and_self, Bool.and_self, if_pos rfl, repeat_one]

/-! ### Padding -/

theorem padding_is {s : List UInt8} (hl : s.length ≤ 1000000) (w : Int) : impl_padding s w = some (if plainB s = true then (if 0 ≤ w ∧ w ≤ 80 then (if w < (s.length : Int) then ([], 5) else (List.replicate (w - (s.length : Int)).toNat 32, 0)) else ([], 2)) else ([], 7)) := by
  unfold impl_padding impl_in
  rw [isPlain_is (by omega)]
  simp only [Option.bind_some]
  cases plainB s
  · rfl
  · simp only [Bool.not_true, Bool.false_eq_true, if_false, if_true]
    by_cases hw : 0 ≤ w ∧ w ≤ 80
    · rw [decide_eq_true hw.1, decide_eq_true hw.2, if_pos hw]
      simp only [Bool.and_self, Bool.not_true, Bool.false_eq_true, if_false]
      by_cases h2 : w < (s.length : Int)
      · simp only [h2, decide_true, if_true]
      · simp only [h2, decide_false, Bool.false_eq_true, if_false]
        rw [wrap_i64 (by omega) (by omega), Repeat_is (by omega) (by omega)]; rfl
    · have : (decide (0 ≤ w) && decide (w ≤ 80)) = false := by
        rw [Bool.and_eq_false_iff]
        by_cases a : 0 ≤ w
        · right; exact decide_eq_false (fun b => hw ⟨a, b⟩)
        · left; exact decide_eq_false a
      rw [this, if_neg hw]
      rfl

theorem l24Code_is {s : List UInt8} (hl : s.length ≤ 1000000) (w : Int) : spec_l24Code s w = some (if plainB s = true then (if 0 ≤ w ∧ w ≤ 80 then (if w < (s.length : Int) then 5 else 0) else 2) else 7) := by
  unfold spec_l24Code spec_l24Width spec_l00In
  rw [l24Plain_is (by omega)]
  simp only [Option.bind_some]
  cases plainB s
  · rfl
  · simp only [Bool.not_true, Bool.false_eq_true, if_false, if_true]
    by_cases hw : 0 ≤ w ∧ w ≤ 80
    · rw [decide_eq_true hw.1, decide_eq_true hw.2, if_pos hw]
      simp only [Bool.and_self, Bool.not_true, Bool.false_eq_true, if_false]
      by_cases h2 : w < (s.length : Int)
      · simp only [h2, decide_true, if_true]
      · simp only [h2, decide_false, Bool.false_eq_true, if_false]
    · have : (decide (0 ≤ w) && decide (w ≤ 80)) = false := by
        rw [Bool.and_eq_false_iff]
        by_cases a : 0 ≤ w
        · right; exact decide_eq_false (fun b => hw ⟨a, b⟩)
        · left; exact decide_eq_false a
      rw [this, if_neg hw]
      rfl

/-- The code of a padding, and what it gives. -/
def padCode (s : List UInt8) (w : Int) : Int := if plainB s = true then (if 0 ≤ w ∧ w ≤ 80 then (if w < (s.length : Int) then 5 else 0) else 2) else 7
def padBlanks (s : List UInt8) (w : Int) : List UInt8 := List.replicate (w - (s.length : Int)).toNat 32

theorem padCode_0 {s : List UInt8} {w : Int} (h : padCode s w = 0) : plainB s = true ∧ (0 ≤ w ∧ w ≤ 80) ∧ ¬ w < (s.length : Int) := by
  unfold padCode at h
  split at h
  · rename_i h1
    split at h
    · rename_i h2
      split at h
      · omega
      · rename_i h3; exact ⟨h1, h2, h3⟩
    · omega
  · omega

theorem padCode_of {s : List UInt8} {w : Int} (h1 : plainB s = true) (h2 : 0 ≤ w ∧ w ≤ 80) (h3 : ¬ w < (s.length : Int)) : padCode s w = 0 := by
  unfold padCode
  rw [if_pos h1, if_pos h2, if_neg h3]

theorem pad_impl {s : List UInt8} (hl : s.length ≤ 1000000) (w : Int) : ∃ b, impl_padding s w = some (b, padCode s w) ∧ (padCode s w = 0 → b = padBlanks s w) := by
  rw [padding_is hl]
  unfold padCode padBlanks
  split
  · split
    · split
      · exact ⟨_, rfl, fun h => absurd h (by decide)⟩
      · exact ⟨_, rfl, fun _ => rfl⟩
    · exact ⟨_, rfl, fun h => absurd h (by decide)⟩
  · exact ⟨_, rfl, fun h => absurd h (by decide)⟩

theorem PadLeft_impl {s : List UInt8} (hl : s.length ≤ 1000000) (w : Int) : impl_PadLeft s w = some (if padCode s w = 0 then (padBlanks s w ++ s, 0) else ([], padCode s w)) := by
  unfold impl_PadLeft
  obtain ⟨b, e, hb⟩ := pad_impl hl w
  rw [e, Option.bind_some]
  by_cases h : padCode s w = 0
  · have := (padCode_0 h).2.1
    rw [hb h, h, if_pos rfl]
    simp only [beq_self_eq_true, Bool.not_true, Bool.false_eq_true, if_false]
    rw [catOk_of (by simp [padBlanks]; omega), ck_true]
  · rw [if_neg h]
    have : (!(padCode s w == 0)) = true := by simpa using h
    simp only [this, if_true]

theorem PadRight_impl {s : List UInt8} (hl : s.length ≤ 1000000) (w : Int) : impl_PadRight s w = some (if padCode s w = 0 then (s ++ padBlanks s w, 0) else ([], padCode s w)) := by
  unfold impl_PadRight
  obtain ⟨b, e, hb⟩ := pad_impl hl w
  rw [e, Option.bind_some]
  by_cases h : padCode s w = 0
  · have := (padCode_0 h).2.1
    rw [hb h, h, if_pos rfl]
    simp only [beq_self_eq_true, Bool.not_true, Bool.false_eq_true, if_false]
    rw [catOk_of (by simp [padBlanks]; omega), ck_true]
  · rw [if_neg h]
    have : (!(padCode s w == 0)) = true := by simpa using h
    simp only [this, if_true]

theorem PadLeft_spec {s : List UInt8} (hl : s.length ≤ 1000000) (w : Int) : spec_PadLeft s w = some (if padCode s w = 0 then (padBlanks s w ++ s, 0) else ([], padCode s w)) := by
  unfold spec_PadLeft
  rw [l24Code_is hl, Option.bind_some]
  show (if (!(padCode s w == 0)) = true then _ else _) = _
  by_cases h : padCode s w = 0
  · have := (padCode_0 h).2.1
    rw [h, if_pos rfl]
    simp only [beq_self_eq_true, Bool.not_true, Bool.false_eq_true, if_false]
    rw [wrap_i64 (by omega) (by omega), Blanks_is (by omega), Option.bind_some, catOk_of (by simp; omega), ck_true]
    rfl
  · rw [if_neg h]
    have h' : (!(padCode s w == 0)) = true := by simpa using h
    rw [h', if_pos rfl]; rfl

theorem PadRight_spec {s : List UInt8} (hl : s.length ≤ 1000000) (w : Int) : spec_PadRight s w = some (if padCode s w = 0 then (s ++ padBlanks s w, 0) else ([], padCode s w)) := by
  unfold spec_PadRight
  rw [l24Code_is hl, Option.bind_some]
  show (if (!(padCode s w == 0)) = true then _ else _) = _
  by_cases h : padCode s w = 0
  · have := (padCode_0 h).2.1
    rw [h, if_pos rfl]
    simp only [beq_self_eq_true, Bool.not_true, Bool.false_eq_true, if_false]
    rw [wrap_i64 (by omega) (by omega), Blanks_is (by omega), Option.bind_some, catOk_of (by simp; omega), ck_true]
    rfl
  · rw [if_neg h]
    have h' : (!(padCode s w == 0)) = true := by simpa using h
    rw [h', if_pos rfl]; rfl

/-! ### The code of a table -/

abbrev Tb := List (List (List UInt8))

def rowOk (rows : Tb) (r : List (List UInt8)) : Bool := !((!((r.length : Int) == ((rows.getD 0 default).length : Int))) || decide (8 < (r.length : Int))) && r.all (fun x => !(decide (80 < (x.length : Int))))
def codeT (rows : Tb) : Int := if rows.all (fun r => r.all plainB) = true then (if (decide (60 < (rows.length : Int))) = true then 2 else if rows.all (rowOk rows) = true then 0 else 2) else 7

/-- Sizes that a table may have. -/
def SmallT (rows : Tb) : Prop := rows.length ≤ 1000 ∧ ∀ r ∈ rows, r.length ≤ 1000 ∧ ∀ x ∈ r, x.length ≤ 100000

theorem smallT_row {rows : Tb} (h : SmallT rows) {i : Nat} (hi : i < rows.length) : (rows.getD i default).length ≤ 1000 ∧ ∀ k, k < (rows.getD i default).length → ((rows.getD i default).getD k default).length ≤ 100000 := by
  have := h.2 _ (getD_mem hi default)
  exact ⟨this.1, fun k hk => this.2 _ (getD_mem hk default)⟩

theorem checkTable_is {rows : Tb} (h : SmallT rows) : impl_checkTable rows = some (codeT rows) := by
  unfold impl_checkTable
  have hr := h.1
  rw [while_all (step := impl_checkTable_l1 rows rows (rows.length : Int)) (fun i => (rows.getD i default).all plainB) rows.length (rows.all fun r => r.all plainB) (yes := .inl ()) (no := .inr 7) (all_getD rows _ default) (fun i hi => by
    have hw := smallT_row h hi
    simp only [impl_checkTable_l1, Int.ofNat_lt, hi, decide_true, if_true, ixOk_nat, ck_true, Int.toNat_natCast, wrap_nat1 (show i < 9223372036854775807 by omega)]
    rw [while_all (step := impl_checkTable_l2 rows rows (rows.length : Int) (i : Int) (rows.getD i default) ((rows.getD i default).length : Int)) (fun k => plainB ((rows.getD i default).getD k default)) (rows.getD i default).length ((rows.getD i default).all plainB) (yes := .inl ()) (no := .inr 7) (all_getD _ _ default) (fun k hk => by
      simp only [impl_checkTable_l2, Int.ofNat_lt, hk, decide_true, if_true, ixOk_nat, ck_true, Int.toNat_natCast, wrap_nat1 (show k < 9223372036854775807 by omega), isPlain_is (show ((rows.getD i default).getD k default).length ≤ 1099511627776 by have := hw.2 k hk; omega), Option.bind_some]
      cases plainB ((rows.getD i default).getD k default) <;> rfl) (by simp [impl_checkTable_l2])]
    cases (rows.getD i default).all plainB <;> rfl) (by simp [impl_checkTable_l1])]
  unfold codeT
  cases rows.all fun r => r.all plainB
  · rfl
  · simp only [if_true, Option.bind_some]
    by_cases h60 : 60 < (rows.length : Int)
    · simp only [h60, decide_true, if_true]
    · simp only [h60, decide_false, Bool.false_eq_true, if_false]
      rw [while_all (step := impl_checkTable_l3 rows rows (rows.length : Int)) (fun i => rowOk rows (rows.getD i default)) rows.length (rows.all (rowOk rows)) (yes := .inl ()) (no := .inr 2) (all_getD rows _ default) (fun i hi => by
        have hw := smallT_row h hi
        simp only [impl_checkTable_l3, Int.ofNat_lt, hi, decide_true, if_true, ixOk_nat, ck_true, Int.toNat_natCast, wrap_nat1 (show i < 9223372036854775807 by omega)]
        rw [ixOk_of (by omega) (by omega), ck_true]
        unfold rowOk
        generalize ((!(((rows.getD i default).length : Int) == ((rows.getD 0 default).length : Int))) || (decide (8 < ((rows.getD i default).length : Int)))) = c
        cases c
        · simp only [Bool.false_eq_true, if_false, Bool.not_false, Bool.true_and]
          rw [while_all (step := impl_checkTable_l4 rows rows (rows.length : Int) (i : Int) (rows.getD i default) ((rows.getD i default).length : Int)) (fun k => !(decide (80 < (((rows.getD i default).getD k default).length : Int)))) (rows.getD i default).length ((rows.getD i default).all fun x => !(decide (80 < (x.length : Int)))) (yes := .inl ()) (no := .inr 2) (all_getD _ (fun (x : List UInt8) => !(decide (80 < (x.length : Int)))) default) (fun k hk => by
            simp only [impl_checkTable_l4, Int.ofNat_lt, hk, decide_true, if_true, ixOk_nat, ck_true, Int.toNat_natCast, wrap_nat1 (show k < 9223372036854775807 by omega)]
            cases decide (80 < (((rows.getD i default).getD k default).length : Int)) <;> rfl) (by simp [impl_checkTable_l4])]
          cases (rows.getD i default).all fun x => !(decide (80 < (x.length : Int))) <;> rfl
        · rfl) (by simp [impl_checkTable_l3])]
      cases rows.all (rowOk rows) <;> rfl

theorem l24Rows_is {rows : Tb} (h : SmallT rows) : spec_l24Rows rows = some (codeT rows) := by
  unfold spec_l24Rows
  have hr := h.1
  rw [while_all (step := spec_l24Rows_l1 rows) (fun i => (rows.getD i default).all plainB) rows.length (rows.all fun r => r.all plainB) (yes := .inl ()) (no := .inr 7) (all_getD rows _ default) (fun i hi => by
    have hw := smallT_row h hi
    simp only [spec_l24Rows_l1, Int.ofNat_lt, hi, decide_true, if_true, ixOk_nat, ck_true, Int.toNat_natCast, wrap_nat1 (show i < 9223372036854775807 by omega)]
    rw [while_all (step := spec_l24Rows_l2 rows (i : Int)) (fun k => plainB ((rows.getD i default).getD k default)) (rows.getD i default).length ((rows.getD i default).all plainB) (yes := .inl ()) (no := .inr 7) (all_getD _ _ default) (fun k hk => by
      simp only [spec_l24Rows_l2, Int.ofNat_lt, hi, hk, decide_true, if_true, ixOk_nat, ck_true, Int.toNat_natCast, wrap_nat1 (show k < 9223372036854775807 by omega), l24Plain_is (show ((rows.getD i default).getD k default).length ≤ 1099511627776 by have := hw.2 k hk; omega), Option.bind_some]
      cases plainB ((rows.getD i default).getD k default) <;> rfl) (by simp [spec_l24Rows_l2, ixOk_nat, hi, ck_true])]
    cases (rows.getD i default).all plainB <;> rfl) (by simp [spec_l24Rows_l1])]
  unfold codeT
  cases rows.all fun r => r.all plainB
  · rfl
  · simp only [if_true, Option.bind_some]
    rw [while_all (step := spec_l24Rows_l3 rows) (fun i => rowOk rows (rows.getD i default)) rows.length (rows.all (rowOk rows)) (yes := .inl ()) (no := .inr 2) (all_getD rows _ default) (fun i hi => by
      have hw := smallT_row h hi
      simp only [spec_l24Rows_l3, Int.ofNat_lt, hi, decide_true, if_true, ixOk_nat, ck_true, Int.toNat_natCast, wrap_nat1 (show i < 9223372036854775807 by omega)]
      rw [ixOk_of (by omega) (by omega), ck_true]
      unfold rowOk
      generalize ((!(((rows.getD i default).length : Int) == ((rows.getD 0 default).length : Int))) || (decide (8 < ((rows.getD i default).length : Int)))) = c
      cases c
      · simp only [Bool.false_eq_true, if_false, Bool.not_false, Bool.true_and]
        rw [while_all (step := spec_l24Rows_l4 rows (i : Int)) (fun k => !(decide (80 < (((rows.getD i default).getD k default).length : Int)))) (rows.getD i default).length ((rows.getD i default).all fun x => !(decide (80 < (x.length : Int)))) (yes := .inl ()) (no := .inr 2) (all_getD _ (fun (x : List UInt8) => !(decide (80 < (x.length : Int)))) default) (fun k hk => by
          simp only [spec_l24Rows_l4, Int.ofNat_lt, hi, hk, decide_true, if_true, ixOk_nat, ck_true, Int.toNat_natCast, wrap_nat1 (show k < 9223372036854775807 by omega)]
          cases decide (80 < (((rows.getD i default).getD k default).length : Int)) <;> rfl) (by simp [spec_l24Rows_l4, ixOk_nat, hi, ck_true])]
        cases (rows.getD i default).all fun x => !(decide (80 < (x.length : Int))) <;> rfl
      · rfl) (by simp [spec_l24Rows_l3])]
    cases rows.all (rowOk rows)
    · simp only [Bool.false_eq_true, if_false, Option.bind_some]
      split <;> rfl
    · simp only [if_true, Option.bind_some]
      split <;> rfl

theorem codeT_0 {rows : Tb} (h : codeT rows = 0) : (∀ i, i < rows.length → ∀ k, k < (rows.getD i default).length → plainB ((rows.getD i default).getD k default) = true) ∧ rows.length ≤ 60 ∧
    ∀ i, i < rows.length → (rows.getD i default).length = (rows.getD 0 default).length ∧ (rows.getD i default).length ≤ 8 ∧ ∀ k, k < (rows.getD i default).length → ((rows.getD i default).getD k default).length ≤ 80 := by
  unfold codeT at h
  split at h
  · rename_i h1
    split at h
    · omega
    · rename_i h2
      split at h
      · rename_i h3
        have h2 : ¬ 60 < (rows.length : Int) := by simpa using h2
        refine ⟨fun i hi => ?_, by omega, fun i hi => ?_⟩
        · exact (all_getD _ _ default).1 ((all_getD rows _ default).1 h1 i hi)
        · have := (all_getD rows _ default).1 h3 i hi
          unfold rowOk at this
          simp only [Bool.and_eq_true, Bool.not_eq_true', Bool.or_eq_false_iff, decide_eq_false_iff_not, Bool.not_eq_false', beq_iff_eq] at this
          refine ⟨by omega, by omega, fun k hk => ?_⟩
          have h4 := (all_getD _ _ default).1 this.2 k hk
          simp only [Bool.not_eq_true', decide_eq_false_iff_not] at h4
          omega
      · omega
  · omega

end Go.Proofs.YtambhaccpbhnhaaGreatDoor
