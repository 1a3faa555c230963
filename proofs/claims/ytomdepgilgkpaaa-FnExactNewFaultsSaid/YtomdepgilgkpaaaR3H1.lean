/- What typed forms say: numbers as bytes, samples. No condition. -/
import Derived.Test.YtomdepgilgkpaaaR3T
import Derived.Test.YtomdepgilgkpaaaEngTD
namespace Go.Proofs.Ytomdepgilgkpaaa
open Go Go.RowKit
set_option linter.unusedSimpArgs false
set_option linter.unusedVariables false

theorem spec_l00In_is (n a b : Int) : spec_l00In n a b = some (decide (a ≤ n) && decide (n ≤ b)) := id rfl
theorem impl_in_is (n a b : Int) : impl_in n a b = some (decide (a ≤ n) && decide (n ≤ b)) := id rfl

theorem eqByteS_is {a b : List UInt8} (h : a.length ≤ 1099511627776) : laws_eqByteS a b = some (decide (a = b)) := by
  unfold laws_eqByteS
  by_cases hl : a.length = b.length
  · have h1 : ((a.length : Int) == (b.length : Int)) = true := by simp [hl]
    rw [h1]
    have := while_all (step := laws_eqByteS_l1 a b) (fun i => a.getD i default == b.getD i default) a.length (decide (a = b)) (yes := .inl ()) (no := .inr false)
      (by rw [decide_eq_true_eq]; exact (getD_eq_iff hl).symm)
      (fun i hi => by
        have hi2 : i < b.length := by omega
        simp only [laws_eqByteS_l1, ixOk_nat, hi, hi2, decide_true, ck_true, Int.ofNat_lt, if_true, Int.toNat_natCast, wrap_nat1 (show i < 9223372036854775807 by omega)]
        have e : (((a.getD i default).toNat : Int) == ((b.getD i default).toNat : Int)) = (a.getD i default == b.getD i default) := by
          rw [Bool.eq_iff_iff]; simp [← UInt8.toNat_inj]; omega
        rw [e]
        cases (a.getD i default == b.getD i default) <;> rfl)
      (by simp [laws_eqByteS_l1])
    simp only [Bool.not_true, Bool.false_eq_true, if_false, this, Option.bind_some]
    by_cases hab : a = b <;> simp [hab]
  · have h1 : ((a.length : Int) == (b.length : Int)) = false := by simp; omega
    rw [h1]
    have : a ≠ b := fun c => hl (by rw [c])
    simp [this]

theorem eqInt64S_is {a b : List Int} (h : a.length ≤ 1099511627776) : laws_eqInt64S a b = some (decide (a = b)) := by
  unfold laws_eqInt64S
  by_cases hl : a.length = b.length
  · have h1 : ((a.length : Int) == (b.length : Int)) = true := by simp [hl]
    rw [h1]
    have := while_all (step := laws_eqInt64S_l1 a b) (fun i => a.getD i default == b.getD i default) a.length (decide (a = b)) (yes := .inl ()) (no := .inr false)
      (by rw [decide_eq_true_eq]; exact (getD_eq_iff hl).symm)
      (fun i hi => by
        have hi2 : i < b.length := by omega
        simp only [laws_eqInt64S_l1, ixOk_nat, hi, hi2, decide_true, ck_true, Int.ofNat_lt, if_true, Int.toNat_natCast, wrap_nat1 (show i < 9223372036854775807 by omega)]
        cases (a.getD i default == b.getD i default) <;> rfl)
      (by simp [laws_eqInt64S_l1])
    simp only [Bool.not_true, Bool.false_eq_true, if_false, this, Option.bind_some]
    by_cases hab : a = b <;> simp [hab]
  · have h1 : ((a.length : Int) == (b.length : Int)) = false := by simp; omega
    rw [h1]
    have : a ≠ b := fun c => hl (by rw [c])
    simp [this]

def mkB (x : UInt8) (k : Int) : UInt8 := UInt8.ofNat (IntKind.u8.wrap k).toNat
theorem markByteS_is {a : List UInt8} (hl : a.length ≤ 1099511627776) : laws_markByteS a 1 = some (1 + ((1 : Nat) : Int) * a.length, markL mkB 1 a 1) := by
  unfold laws_markByteS
  rw [mark_loop mkB 1 (step := laws_markByteS_l1) (by omega) ?_ ?_ hl]
  · simp [markL_len, ck_true]
  · intro l k i hi hl2 h1 h2
    have hk : IntKind.i64.wrap (k + 1) = k + ((1 : Nat) : Int) := wrap_i64 (by omega) (by omega)
    simp only [laws_markByteS_l1, ixOk_nat, hi, decide_true, ck_true, Int.ofNat_lt, if_true, Int.toNat_natCast, wrap_nat1 (show i < 9223372036854775807 by omega), hk, mkB, toU8]
  · intro l k; simp [laws_markByteS_l1]
theorem heldByteS_is {a : List UInt8} (hl : a.length ≤ 1099511627776) : laws_heldByteS (markL mkB 1 a 1) 1 = some (1 + ((1 : Nat) : Int) * a.length) := by
  unfold laws_heldByteS
  rw [held_loop (f := mkB) (c := 1) (a := a) (by omega) ?_ ?_ hl]
  · rfl
  · intro x k i hi hg h1 h2
    have hk : IntKind.i64.wrap (k + 1) = k + ((1 : Nat) : Int) := wrap_i64 (by omega) (by omega)
    simp only [laws_heldByteS_l1, ixOk_nat, markL_len, hi, decide_true, ck_true, Int.ofNat_lt, if_true, Int.toNat_natCast, wrap_nat1 (show i < 9223372036854775807 by omega), hk, hg, mkB, toU8_wrap, beq_self_eq_true, Bool.not_true, Bool.false_eq_true, if_false]
  · intro k; simp [laws_heldByteS_l1, markL_len]

def mkI (x : Int) (k : Int) : Int := k
theorem markInt64S_is {a : List Int} (hl : a.length ≤ 1099511627776) : laws_markInt64S a 1 = some (1 + ((1 : Nat) : Int) * a.length, markL mkI 1 a 1) := by
  unfold laws_markInt64S
  rw [mark_loop mkI 1 (step := laws_markInt64S_l1) (by omega) ?_ ?_ hl]
  · simp [markL_len, ck_true]
  · intro l k i hi hl2 h1 h2
    have hk : IntKind.i64.wrap (k + 1) = k + ((1 : Nat) : Int) := wrap_i64 (by omega) (by omega)
    simp only [laws_markInt64S_l1, ixOk_nat, hi, decide_true, ck_true, Int.ofNat_lt, if_true, Int.toNat_natCast, wrap_nat1 (show i < 9223372036854775807 by omega), hk, mkI]
  · intro l k; simp [laws_markInt64S_l1]
theorem heldInt64S_is {a : List Int} (hl : a.length ≤ 1099511627776) : laws_heldInt64S (markL mkI 1 a 1) 1 = some (1 + ((1 : Nat) : Int) * a.length) := by
  unfold laws_heldInt64S
  rw [held_loop (f := mkI) (c := 1) (a := a) (by omega) ?_ ?_ hl]
  · rfl
  · intro x k i hi hg h1 h2
    have hk : IntKind.i64.wrap (k + 1) = k + ((1 : Nat) : Int) := wrap_i64 (by omega) (by omega)
    simp only [laws_heldInt64S_l1, ixOk_nat, markL_len, hi, decide_true, ck_true, Int.ofNat_lt, if_true, Int.toNat_natCast, wrap_nat1 (show i < 9223372036854775807 by omega), hk, hg, mkI, beq_self_eq_true, Bool.not_true, Bool.false_eq_true, if_false]
  · intro k; simp [laws_heldInt64S_l1, markL_len]

/-! ### The bytes of a number -/

def numStep (n : Int) : UInt8 := toU8 (IntKind.u8.wrap (IntKind.i64.wrap ((n.tmod 128) + 128)))
def numInv (s : Int × List UInt8) : Prop := 0 ≤ s.1 ∧ s.1 * 128 ^ s.2.length ≤ 9223372036854775807

theorem pow1 (l : Nat) : (1 : Int) ≤ 128 ^ l := by
  have : 0 < (128 : Nat) ^ l := Nat.pow_pos (by decide)
  exact_mod_cast this
theorem num_bound {n : Int} {l : Nat} (h1 : 128 ≤ n) (h2 : n * 128 ^ l ≤ 9223372036854775807) : l ≤ 8 := by
  refine Classical.byContradiction fun hc => ?_
  have : (128 : Int) ^ 9 ≤ 128 ^ l := by
    have : (128 : Nat) ^ 9 ≤ 128 ^ l := Nat.pow_le_pow_right (by omega) (by omega)
    exact_mod_cast this
  have h3 : (128 : Int) * 128 ^ 9 ≤ n * 128 ^ l := Int.mul_le_mul h1 this (by decide) (by omega)
  have h4 : (128 : Int) * 128 ^ 9 > 9223372036854775807 := by decide
  omega

theorem l25_step {n : Int} {out : List UInt8} (h : numInv (n, out)) : spec_l25Number_l1 (n, out) = some (if 128 ≤ n then .inl (n / 128, out ++ [numStep n]) else .inr (n, out)) ∧ (128 ≤ n → numInv (n / 128, out ++ [numStep n]) ∧ out.length ≤ 8) := by
  obtain ⟨h0, h1⟩ := h
  simp only at h0 h1
  by_cases hn : 128 ≤ n
  · have hb := num_bound hn h1
    have ht : n.tdiv 128 = n / 128 := Int.tdiv_eq_ediv_of_nonneg h0
    have hbig : n ≤ 9223372036854775807 := by
      have : n * 1 ≤ n * 128 ^ out.length := Int.mul_le_mul_of_nonneg_left (pow1 _) h0
      omega
    refine ⟨?_, fun _ => ⟨⟨by show 0 ≤ n / 128; omega, ?_⟩, hb⟩⟩
    · simp only [spec_l25Number_l1, hn, decide_true, if_true, nz_of (show (128 : Int) ≠ 0 by decide), ck_true]
      rw [appOk_of (by simp; omega), ck_true, ht, wrap_i64 (n := n / 128) (by omega) (by omega)]
      rfl
    · show n / 128 * 128 ^ (out ++ [numStep n]).length ≤ _
      rw [List.length_append, List.length_singleton, Int.pow_succ, Int.mul_comm (128 ^ out.length) 128, ← Int.mul_assoc]
      have : n / 128 * 128 ≤ n := by omega
      exact Int.le_trans (Int.mul_le_mul_of_nonneg_right this (by exact_mod_cast Nat.zero_le _)) h1
  · exact ⟨by simp [spec_l25Number_l1, hn], fun c => absurd c hn⟩

theorem l25Number_some {n : Int} (h0 : 0 ≤ n) (h1 : n ≤ 9223372036854775807) : ∃ m out, whileE spec_l25Number_l1 (n, []) = some (m, out) ∧ out.length ≤ 9 ∧ 0 ≤ m ∧ m < 128 := by
  obtain ⟨y, hy, q⟩ := while_post (step := spec_l25Number_l1) (fun s => numInv s ∧ s.2.length ≤ 9) (fun y => y.2.length ≤ 9 ∧ 0 ≤ y.1 ∧ y.1 < 128) (fun s => s.1.toNat) (by
    rintro ⟨n, out⟩ ⟨h, hl⟩
    obtain ⟨e, h2⟩ := l25_step h
    rw [e]
    by_cases hn : 128 ≤ n
    · rw [if_pos hn]
      refine .inl ⟨_, rfl, ⟨(h2 hn).1, ?_⟩, ?_⟩
      · have := (h2 hn).2; simp; omega
      · show (n / 128).toNat < n.toNat; omega
    · rw [if_neg hn]
      exact .inr ⟨_, rfl, hl, h.1, by omega⟩) (s := (n, [])) ⟨⟨h0, by simpa using h1⟩, by simp⟩
  exact ⟨y.1, y.2, hy, q⟩

theorem appendNumber_loop {n : Int} {b : List UInt8} (h0 : 0 ≤ n) (h1 : n ≤ 9223372036854775807) (hb : b.length ≤ 1099511627776) {m : Int} {out : List UInt8} (h : whileE spec_l25Number_l1 (n, []) = some (m, out)) :
    whileE impl_appendNumber_l1 (b, n) = some (b ++ out, m) := by
  have := while_sim (step := spec_l25Number_l1) (step' := impl_appendNumber_l1) (fun s => (b ++ s.2, s.1)) (fun s => (b ++ s.2, s.1)) numInv (by
    rintro ⟨n, out⟩ hi
    obtain ⟨e, h2⟩ := l25_step hi
    rw [e]
    by_cases hn : 128 ≤ n
    · obtain ⟨h3, h4⟩ := h2 hn
      have ht : n.tdiv 128 = n / 128 := Int.tdiv_eq_ediv_of_nonneg hi.1
      have hbig : n ≤ 9223372036854775807 := by
        have : n * 1 ≤ n * 128 ^ out.length := Int.mul_le_mul_of_nonneg_left (pow1 _) hi.1
        have := hi.2
        simp only at this
        omega
      simp only [impl_appendNumber_l1, hn, decide_true, if_true, nz_of (show (128 : Int) ≠ 0 by decide), ck_true]
      rw [appOk_of (by simp; omega), ck_true, ht, wrap_i64 (n := n / 128) (by omega) (by omega)]
      simp [numStep]
    · simp [impl_appendNumber_l1, hn]) (by
    rintro ⟨n, out⟩ s' hi e
    obtain ⟨e2, h2⟩ := l25_step hi
    rw [e2] at e
    split at e
    · cases e; rename_i hn; exact (h2 hn).1
    · cases e) (s := (n, [])) ⟨h0, by simpa using h1⟩ h
  simpa using this

/-- The bytes of a number that is not negative. -/
theorem number_is {n : Int} (h0 : 0 ≤ n) (h1 : n ≤ 9223372036854775807) : ∃ l : List UInt8, l.length ≤ 10 ∧ spec_l25Number n = some l ∧ ∀ b : List UInt8, b.length ≤ 1099511627776 → impl_appendNumber b n = some (b ++ l) := by
  obtain ⟨m, out, h, hl, hm⟩ := l25Number_some h0 h1
  refine ⟨out ++ [toU8 (IntKind.u8.wrap m)], by simp; omega, ?_, fun b hb => ?_⟩
  · unfold spec_l25Number
    rw [h]
    simp only [Option.bind_some]
    rw [appOk_of (by simp; omega), ck_true]
  · unfold impl_appendNumber
    rw [appendNumber_loop h0 h1 hb h]
    simp only [Option.bind_some]
    rw [appOk_of (by simp; omega), ck_true, List.append_assoc]

theorem law_NumberBytes {n : Int} (w : R64 n) : laws_FnExactNumberBytes n = some true := by
  unfold laws_FnExactNumberBytes
  have key : ∃ l : List UInt8, ∃ c : Int, l.length ≤ 10 ∧ spec_NumberBytes n = some (l, c) ∧ impl_NumberBytes n = some (l, c) := by
    by_cases h : n < 0
    · exact ⟨[], 2, by simp, by simp [spec_NumberBytes, h], by simp [impl_NumberBytes, h]⟩
    · obtain ⟨l, h1, h2, h3⟩ := number_is (n := n) (by omega) w.2
      refine ⟨l, 0, h1, by simp [spec_NumberBytes, h, h2], ?_⟩
      have := h3 [] (by simp)
      simp [impl_NumberBytes, h, this]
  obtain ⟨l, c, hl, h1, h2⟩ := key
  simp only [h1, h2, Option.bind_some, eqByteS_is (show l.length ≤ 1099511627776 by omega), decide_true, Bool.not_true, beq_self_eq_true, Bool.or_self, Bool.false_eq_true, if_false, markByteS_is (show l.length ≤ 1099511627776 by omega), heldByteS_is (show l.length ≤ 1099511627776 by omega)]
  have : ¬ (1 + ((1 : Nat) : Int) * (l.length : Int) < 0) := by omega
  simp only [this, decide_false, Bool.false_eq_true, if_false]

/-! ### Samples -/

def smInv (count many : Int) (s : List Int × Int × Int × Int) : Prop := s.2.2.1 = many - s.1.length ∧ 0 ≤ s.2.2.1 ∧ s.2.2.1 ≤ count - s.2.2.2 ∧ 0 ≤ s.2.2.2 ∧ 0 ≤ s.2.1 ∧ s.2.1 ≤ 65536 ∧ s.1.length ≤ 100

def smX (x : Int) : Int := (x * 75 + 74) % 65537
theorem smX_in {x : Int} : 0 ≤ smX x ∧ smX x ≤ 65536 := by unfold smX; omega

theorem sm_x {x : Int} (h0 : 0 ≤ x) (h1 : x ≤ 65536) : (IntKind.i64.wrap ((IntKind.i64.wrap (x * 75)) + 74)).tmod 65537 = smX x ∧ (IntKind.i64.wrap ((IntKind.i64.wrap (75 * x)) + 74)).tmod 65537 = smX x := by
  rw [wrap_i64 (n := x * 75) (by omega) (by omega), wrap_i64 (n := 75 * x) (by omega) (by omega), wrap_i64 (n := x * 75 + 74) (by omega) (by omega), wrap_i64 (n := 75 * x + 74) (by omega) (by omega), Int.mul_comm 75 x,
    Int.tmod_eq_emod_of_nonneg (by omega)]
  exact ⟨rfl, rfl⟩

theorem sm_step {count many : Int} (hc : count ≤ 10000) (hm : many ≤ 100) {out : List Int} {x need i : Int} (h : smInv count many (out, x, need, i)) :
    spec_SampleOf_l1 count (out, x, need, i) = some (if 0 < need then (if smX x % (count - i) < need then .inl (out ++ [i], smX x, need - 1, i + 1) else .inl (out, smX x, need, i + 1)) else .inr out) ∧
    impl_SampleOf_l1 count many (out, x, i) = some (if 0 < need then (if smX x % (count - i) < need then .inl (out ++ [i], smX x, i + 1) else .inl (out, smX x, i + 1)) else .inr out) ∧
    (0 < need → (smX x % (count - i) < need → smInv count many (out ++ [i], smX x, need - 1, i + 1)) ∧ (¬ smX x % (count - i) < need → smInv count many (out, smX x, need, i + 1)) ∧ i < count) := by
  obtain ⟨h1, h2, h3, h4, h5, h6, h7⟩ := h
  simp only at h1 h2 h3 h4 h5 h6 h7
  obtain ⟨ex, ex2⟩ := sm_x h5 h6
  obtain ⟨x1, x2⟩ := @smX_in x
  by_cases hn : 0 < need
  · have hi : i < count := by omega
    have wc : IntKind.i64.wrap (count - i) = count - i := wrap_i64 (by omega) (by omega)
    have wi : IntKind.i64.wrap (i + 1) = i + 1 := wrap_i64 (by omega) (by omega)
    have wn : IntKind.i64.wrap (need - 1) = need - 1 := wrap_i64 (by omega) (by omega)
    have wm : IntKind.i64.wrap (many - (out.length : Int)) = need := by rw [wrap_i64 (by omega) (by omega), h1]
    have et : (smX x).tmod (count - i) = smX x % (count - i) := Int.tmod_eq_emod_of_nonneg x1
    have e0 : 0 ≤ smX x % (count - i) := Int.emod_nonneg _ (by omega)
    have e1 : smX x % (count - i) < count - i := Int.emod_lt_of_pos _ (by omega)
    have hl : (out.length : Int) < many := by omega
    refine ⟨?_, ?_, fun _ => ⟨fun hlt => ⟨?_, by show 0 ≤ need - 1; omega, by show need - 1 ≤ count - (i + 1); omega, by show 0 ≤ i + 1; omega, x1, x2, ?_⟩, fun hge => ⟨h1, h2, by show need ≤ count - (i + 1); omega, by show 0 ≤ i + 1; omega, x1, x2, h7⟩, hi⟩⟩
    · simp only [spec_SampleOf_l1, hn, decide_true, if_true, nz_of (show (65537 : Int) ≠ 0 by decide), ck_true, ex, wc, et, nz_of (show count - i ≠ 0 by omega), wi, wn]
      rw [appOk_of (by simp; omega), ck_true]
      by_cases hlt : smX x % (count - i) < need <;> simp [hlt]
    · simp only [impl_SampleOf_l1, hi, hl, decide_true, Bool.and_self, if_true, nz_of (show (65537 : Int) ≠ 0 by decide), ck_true, ex2, wc, et, nz_of (show count - i ≠ 0 by omega), wi, wm]
      rw [appOk_of (by simp; omega), ck_true]
      by_cases hlt : smX x % (count - i) < need <;> simp [hlt, hn]
    · show need - 1 = many - ((out ++ [i]).length : Int)
      simp; omega
    · show (out ++ [i]).length ≤ 100
      simp; omega
  · have hl : ¬ (out.length : Int) < many := by omega
    exact ⟨by simp [spec_SampleOf_l1, hn], by simp [impl_SampleOf_l1, hn, hl], fun c => absurd c hn⟩

theorem SampleOf_same (count many seed : Int) : ∃ l c, l.length ≤ 100 ∧ spec_SampleOf count many seed = some (l, c) ∧ impl_SampleOf count many seed = some (l, c) := by
  unfold spec_SampleOf impl_SampleOf
  simp only [spec_l00In_is, impl_in_is, Option.bind_some, Option.isSome_some, Option.getD_some, Bool.or_true, ck_true]
  by_cases hb : (((!((decide (0 ≤ count)) && (decide (count ≤ 10000)))) || (!((decide (0 ≤ many)) && (decide (many ≤ 100))))) || (!((decide (0 ≤ seed)) && (decide (seed ≤ 65535))))) = true
  · rw [if_pos hb, if_pos hb]
    exact ⟨[], 2, by simp, rfl, rfl⟩
  · rw [if_neg hb, if_neg hb]
    by_cases hcm : count < many
    · exact ⟨[], 6, by simp, by simp [hcm], by simp [hcm]⟩
    · simp only [hcm, decide_false, Bool.false_eq_true, if_false]
      have hr : (0 ≤ count ∧ count ≤ 10000) ∧ (0 ≤ many ∧ many ≤ 100) ∧ (0 ≤ seed ∧ seed ≤ 65535) := by
        simp only [Bool.or_eq_true, Bool.not_eq_true', Bool.and_eq_false_iff, decide_eq_false_iff_not] at hb
        omega
      have hi0 : smInv count many (([] : List Int), seed, many, 0) := by
        refine ⟨by simp, ?_, ?_, ?_, ?_, ?_, by simp⟩ <;> simp only <;> omega
      obtain ⟨y, hy, hlen⟩ := while_post (step := spec_SampleOf_l1 count) (smInv count many) (fun y => y.length ≤ 100) (fun s => (count - s.2.2.2).toNat) (by
        rintro ⟨out, x, need, i⟩ h
        obtain ⟨e, _, h3⟩ := sm_step hr.1.2 hr.2.1.2 h
        rw [e]
        by_cases hn : 0 < need
        · obtain ⟨a1, a2, a3⟩ := h3 hn
          rw [if_pos hn]
          by_cases hlt : smX x % (count - i) < need
          · rw [if_pos hlt]; exact .inl ⟨_, rfl, a1 hlt, by simp only; omega⟩
          · rw [if_neg hlt]; exact .inl ⟨_, rfl, a2 hlt, by simp only; omega⟩
        · rw [if_neg hn]; exact .inr ⟨_, rfl, h.2.2.2.2.2.2⟩) hi0
      have hs := while_sim (step := spec_SampleOf_l1 count) (step' := impl_SampleOf_l1 count many) (fun s => (s.1, s.2.1, s.2.2.2)) id (smInv count many) (by
        rintro ⟨out, x, need, i⟩ h
        obtain ⟨e, e2, _⟩ := sm_step hr.1.2 hr.2.1.2 h
        simp only
        rw [e, e2]
        by_cases hn : 0 < need <;> by_cases hlt : smX x % (count - i) < need <;> simp [hn, hlt]) (by
        rintro ⟨out, x, need, i⟩ s' h hst
        obtain ⟨e, _, h3⟩ := sm_step hr.1.2 hr.2.1.2 h
        rw [e] at hst
        by_cases hn : 0 < need
        · obtain ⟨a1, a2, a3⟩ := h3 hn
          rw [if_pos hn] at hst
          by_cases hlt : smX x % (count - i) < need
          · rw [if_pos hlt] at hst; cases hst; exact a1 hlt
          · rw [if_neg hlt] at hst; cases hst; exact a2 hlt
        · rw [if_neg hn] at hst; cases hst) hi0 hy
      refine ⟨y, 0, hlen, by rw [hy]; rfl, ?_⟩
      simp only at hs
      rw [hs]; rfl

theorem law_SampleOf {count many seed : Int} : laws_FnExactSampleOf count many seed = some true := by
  unfold laws_FnExactSampleOf
  obtain ⟨l, c, hl, h1, h2⟩ := SampleOf_same count many seed
  simp only [h1, h2, Option.bind_some, eqInt64S_is (show l.length ≤ 1099511627776 by omega), decide_true, Bool.not_true, beq_self_eq_true, Bool.or_self, Bool.false_eq_true, if_false, markInt64S_is (show l.length ≤ 1099511627776 by omega), heldInt64S_is (show l.length ≤ 1099511627776 by omega)]
  have : ¬ (1 + ((1 : Nat) : Int) * (l.length : Int) < 0) := by omega
  simp only [this, decide_false, Bool.false_eq_true, if_false]
end Go.Proofs.Ytomdepgilgkpaaa
