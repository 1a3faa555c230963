/- Plain lemmas, several texts in one. No condition. -/
import Derived.Test.YtpjpfdoaemoddaaGreatEngTD
import Derived.Test.YtpjpfdoaemoddaaGreatPKT
/- Plain loops: the first place, what is kept, what holds of some. No condition. -/
namespace Go.Proofs.YtpjpfdoaemoddaaGreat
open Go Go.RowKit
set_option linter.unusedSimpArgs false
set_option linter.unusedVariables false

/-- The first place where p holds. -/
theorem while_find {ρ : Type} {step : Int → Option (Int ⊕ (Unit ⊕ ρ))} (p : Nat → Bool) (g : Nat → ρ) (n : Nat)
    (hs : ∀ i, i < n → step (i : Int) = some (if p i = true then .inr (.inr (g i)) else .inl ((i + 1 : Nat) : Int))) (he : step (n : Int) = some (.inr (.inl ()))) :
    whileE step 0 = some (match (List.range n).find? p with | some j => .inr (g j) | none => .inl ()) := by
  have key : ∀ m i : Nat, i + m = n → (∀ k, k < i → p k = false) → whileE step (i : Int) = some (match (List.range n).find? p with | some j => .inr (g j) | none => .inl ()) := by
    intro m
    induction m with
    | zero =>
      intro i hi hk
      obtain rfl : i = n := by omega
      rw [whileE_done he]
      have : (List.range i).find? p = none := by
        rw [List.find?_eq_none]
        intro x hx; rw [hk x (by simpa using hx)]; exact Bool.false_ne_true
      rw [this]
    | succ m ih =>
      intro i hi hk
      have hlt : i < n := by omega
      by_cases hp : p i = true
      · rw [whileE_done (by rw [hs i hlt, if_pos hp])]
        have : (List.range n).find? p = some i := by
          rw [List.find?_range_eq_some]
          exact ⟨hp, by simpa using hlt, fun j hj => by simp [hk j hj]⟩
        rw [this]
      · rw [whileE_next (by rw [hs i hlt, if_neg hp])]
        refine ih (i + 1) (by omega) fun k hk2 => ?_
        rcases Nat.lt_or_ge k i with c | c
        · exact hk k c
        · obtain rfl : k = i := by omega
          simpa using hp
  exact key n 0 (by omega) fun k hk => by omega

theorem find_any {α : Type} [Inhabited α] (xs : List α) (f : α → Bool) : ((List.range xs.length).find? fun i => f (xs.getD i default)).isSome = xs.any f := by
  rw [Bool.eq_iff_iff, List.find?_isSome, List.any_eq_true]
  constructor
  · rintro ⟨i, hi, hf⟩
    have hi' : i < xs.length := by simpa using hi
    exact ⟨_, getD_mem hi' default, hf⟩
  · rintro ⟨x, hx, hf⟩
    obtain ⟨i, hi, rfl⟩ := List.getElem_of_mem hx
    exact ⟨i, by simpa using hi, by rw [getD_lt hi]; exact hf⟩

/-- What is kept of a list, in its order. -/
def keptTo {α β : Type} (p : Nat → Bool) (x : Nat → β) (n : Nat) : List β := ((List.range n).filter p).map x

theorem keptTo_succ {β : Type} (p : Nat → Bool) (x : Nat → β) (n : Nat) : keptTo (α := β) p x (n + 1) = if p n = true then keptTo (α := β) p x n ++ [x n] else keptTo (α := β) p x n := by
  unfold keptTo
  rw [List.range_succ, List.filter_append, List.map_append]
  by_cases h : p n = true
  · simp [h]
  · simp [h]

theorem keptTo_len {β : Type} (p : Nat → Bool) (x : Nat → β) (n : Nat) : (keptTo (α := β) p x n).length ≤ n := by
  unfold keptTo
  rw [List.length_map]
  exact Nat.le_trans (List.length_filter_le _ _) (by simp)

theorem while_keep {β ρ : Type} {step : List β × Int → Option ((List β × Int) ⊕ ρ)} (p : Nat → Bool) (x : Nat → β) (n : Nat) {r : ρ}
    (hs : ∀ (out : List β) (i : Nat), i < n → out.length ≤ i → step (out, (i : Int)) = some (.inl (if p i = true then out ++ [x i] else out, ((i + 1 : Nat) : Int))))
    (he : step (keptTo (α := β) p x n, (n : Int)) = some (.inr r)) : whileE step ([], 0) = some r := by
  exact while_up (step := step) (fun i => keptTo (α := β) p x i) n (r := r) (fun i hi => by rw [hs _ i hi (keptTo_len _ _ _), keptTo_succ]) he

end Go.Proofs.YtpjpfdoaemoddaaGreat

/- What typed forms say: checksums. No condition. -/
namespace Go.Proofs.YtpjpfdoaemoddaaGreat
open Go Go.RowKit
set_option linter.unusedSimpArgs false
set_option linter.unusedVariables false

theorem sum_step (b : List UInt8) : impl_SumOfBytes_l1 b (b.length : Int) = spec_l25Sum_l1 b := id rfl

theorem sum_is {b : List UInt8} (hl : b.length ≤ 1099511627776) : ∃ s, spec_l25Sum b = some s ∧ 0 ≤ s ∧ s ≤ 63000 ∧ impl_SumOfBytes b = some s := by
  obtain ⟨y, hy, h1, h2, h3, h4⟩ := while_post (step := spec_l25Sum_l1 b) (fun s => 0 ≤ s.1 ∧ s.1 ≤ 250 ∧ 0 ≤ s.2.1 ∧ s.2.1 ≤ 250 ∧ ∃ i : Nat, s.2.2 = (i : Int) ∧ i ≤ b.length) (fun y => 0 ≤ y.1 ∧ y.1 ≤ 250 ∧ 0 ≤ y.2 ∧ y.2 ≤ 250) (fun s => b.length - s.2.2.toNat) (by
    rintro ⟨s, t, i⟩ ⟨h1, h2, h3, h4, i, rfl, hi⟩
    simp only at h1 h2 h3 h4
    by_cases h : i < b.length
    · left
      have hb := u8_lt (b.getD i default)
      have hb0 : (0 : Int) ≤ ((b.getD i default).toNat : Int) := by omega
      have w1 : IntKind.i64.wrap (s + ((b.getD i default).toNat : Int)) = s + ((b.getD i default).toNat : Int) := wrap_i64 (by omega) (by omega)
      have t1 : (s + ((b.getD i default).toNat : Int)).tmod 251 = (s + ((b.getD i default).toNat : Int)) % 251 := Int.tmod_eq_emod_of_nonneg (by omega)
      have w2 : IntKind.i64.wrap (t + (s + ((b.getD i default).toNat : Int)) % 251) = t + (s + ((b.getD i default).toNat : Int)) % 251 := wrap_i64 (by omega) (by omega)
      have t2 : (t + (s + ((b.getD i default).toNat : Int)) % 251).tmod 251 = (t + (s + ((b.getD i default).toNat : Int)) % 251) % 251 := Int.tmod_eq_emod_of_nonneg (by omega)
      simp only [spec_l25Sum_l1, Int.ofNat_lt, h, decide_true, if_true, ixOk_nat, ck_true, Int.toNat_natCast, wrap_nat1 (show i < 9223372036854775807 by omega), nz_of (show (251 : Int) ≠ 0 by decide), w1, t1, w2, t2]
      refine ⟨_, rfl, ⟨by show 0 ≤ _ % 251; omega, by show _ % 251 ≤ 250; omega, by show 0 ≤ _ % 251; omega, by show _ % 251 ≤ 250; omega, i + 1, rfl, by omega⟩, by simp only [Int.toNat_natCast]; omega⟩
    · right
      exact ⟨(s, t), by simp [spec_l25Sum_l1, h], h1, h2, h3, h4⟩) (s := (1, 0, 0)) ⟨by decide, by decide, by decide, by decide, 0, rfl, by omega⟩
  have w1 : IntKind.i64.wrap (251 * y.2) = 251 * y.2 := wrap_i64 (by omega) (by omega)
  have w2 : IntKind.i64.wrap (251 * y.2 + y.1) = 251 * y.2 + y.1 := wrap_i64 (by omega) (by omega)
  refine ⟨251 * y.2 + y.1, ?_, by omega, by omega, ?_⟩
  · unfold spec_l25Sum; rw [hy]; simp only [Option.bind_some, w1, w2]
  · unfold impl_SumOfBytes; rw [sum_step, hy]; simp only [Option.bind_some, w1, w2]

end Go.Proofs.YtpjpfdoaemoddaaGreat

/- What typed forms say: folded numbers, and bytes with their checksum. No condition. -/
namespace Go.Proofs.YtpjpfdoaemoddaaGreat
open Go Go.RowKit
set_option linter.unusedSimpArgs false
set_option linter.unusedVariables false

/-! ### Folded numbers -/

def foldN (n : Int) : Int := if n < 0 then -2 * n - 1 else 2 * n
theorem fold_is {n : Int} (h0 : -1000000000000000000 ≤ n) (h1 : n ≤ 1000000000000000000) : spec_l25Fold n = some (foldN n) ∧ impl_fold n = some (foldN n) := by
  unfold foldN
  have e1 : IntKind.i64.wrap ((-2) * n) = -2 * n := wrap_i64 (by omega) (by omega)
  have e2 : IntKind.i64.wrap (2 * n) = 2 * n := wrap_i64 (by omega) (by omega)
  by_cases h : n < 0
  · have e3 : IntKind.i64.wrap (-2 * n - 1) = -2 * n - 1 := wrap_i64 (by omega) (by omega)
    simp only [spec_l25Fold, impl_fold, h, decide_true, if_true, e1, e3, and_self]
  · simp only [spec_l25Fold, impl_fold, h, decide_false, Bool.false_eq_true, if_false, e2, and_self]
theorem foldN_in {n : Int} (h0 : -100000 ≤ n) (h1 : n ≤ 100000) : 0 ≤ foldN n ∧ foldN n ≤ 200000 := by unfold foldN; split <;> omega

/-! ### Closing -/

theorem close_is {b : List UInt8} (hl : b.length ≤ 10000000) : ∃ l, l.length ≤ b.length + 2 ∧ spec_l25Close b = some l ∧ impl_sealed b = some l := by
  obtain ⟨s, h1, h2, h3, h4⟩ := sum_is (b := b) (by omega)
  have t1 : s.tdiv 256 = s / 256 := Int.tdiv_eq_ediv_of_nonneg h2
  have t2 : s.tmod 256 = s % 256 := Int.tmod_eq_emod_of_nonneg h2
  have w1 : IntKind.i64.wrap (s / 256) = s / 256 := wrap_i64 (by omega) (by omega)
  refine ⟨b ++ [toU8 (IntKind.u8.wrap (s / 256)), toU8 (IntKind.u8.wrap (s % 256))], by simp, ?_, ?_⟩
  · unfold spec_l25Close
    simp only [h1, Option.bind_some, nz_of (show (256 : Int) ≠ 0 by decide), ck_true, t1, t2, w1]
    rw [appOk_of (by simp; omega), appOk_of (by simp; omega), ck_true, ck_true]
    simp
  · unfold impl_sealed
    simp only [h4, Option.bind_some, nz_of (show (256 : Int) ≠ 0 by decide), ck_true, t1, t2, w1]
    rw [appOk_of (by simp; omega), ck_true]

end Go.Proofs.YtpjpfdoaemoddaaGreat

/- What typed forms say: the bytes of numbers. No condition. -/
namespace Go.Proofs.YtpjpfdoaemoddaaGreat
open Go Go.RowKit
set_option linter.unusedSimpArgs false
set_option linter.unusedVariables false

/-! ### The bytes of a number -/

def numStep (n : Int) : UInt8 := toU8 (IntKind.u8.wrap (IntKind.i64.wrap ((n.tmod 128) + 128)))
def numInv (s : Int × List UInt8) : Prop := 0 ≤ s.1 ∧ s.1 * 128 ^ s.2.length ≤ 9223372036854775807

theorem pow1 (l : Nat) : (1 : Int) ≤ 128 ^ l := by
  have : 0 < (128 : Nat) ^ l := Nat.pow_pos (by decide)
  exact_mod_cast this
theorem num_bound {n : Int} {l : Nat} (h1 : 128 ≤ n) (h2 : n * 128 ^ l ≤ 9223372036854775807) : l ≤ 8 := by
  refine Classical.byContradiction fun hc => ?_
  have : (128 : Int) ^ 9 ≤ 128 ^ l := by
    have : (128 : Nat) ^ 9 ≤ 128 ^ l := Nat.pow_le_pow_right (by omega) (by omega)
    exact_mod_cast this
  have h3 : (128 : Int) * 128 ^ 9 ≤ n * 128 ^ l := Int.mul_le_mul h1 this (by decide) (by omega)
  have h4 : (128 : Int) * 128 ^ 9 > 9223372036854775807 := by decide
  omega

theorem l25_step {n : Int} {out : List UInt8} (h : numInv (n, out)) : spec_l25Number_l1 (n, out) = some (if 128 ≤ n then .inl (n / 128, out ++ [numStep n]) else .inr (n, out)) ∧ (128 ≤ n → numInv (n / 128, out ++ [numStep n]) ∧ out.length ≤ 8) := by
  obtain ⟨h0, h1⟩ := h
  simp only at h0 h1
  by_cases hn : 128 ≤ n
  · have hb := num_bound hn h1
    have ht : n.tdiv 128 = n / 128 := Int.tdiv_eq_ediv_of_nonneg h0
    have hbig : n ≤ 9223372036854775807 := by
      have : n * 1 ≤ n * 128 ^ out.length := Int.mul_le_mul_of_nonneg_left (pow1 _) h0
      omega
    refine ⟨?_, fun _ => ⟨⟨by show 0 ≤ n / 128; omega, ?_⟩, hb⟩⟩
    · simp only [spec_l25Number_l1, hn, decide_true, if_true, nz_of (show (128 : Int) ≠ 0 by decide), ck_true]
      rw [appOk_of (by simp; omega), ck_true, ht, wrap_i64 (n := n / 128) (by omega) (by omega)]
      rfl
    · show n / 128 * 128 ^ (out ++ [numStep n]).length ≤ _
      rw [List.length_append, List.length_singleton, Int.pow_succ, Int.mul_comm (128 ^ out.length) 128, ← Int.mul_assoc]
      have : n / 128 * 128 ≤ n := by omega
      exact Int.le_trans (Int.mul_le_mul_of_nonneg_right this (by exact_mod_cast Nat.zero_le _)) h1
  · exact ⟨by simp [spec_l25Number_l1, hn], fun c => absurd c hn⟩

theorem l25Number_some {n : Int} (h0 : 0 ≤ n) (h1 : n ≤ 9223372036854775807) : ∃ m out, whileE spec_l25Number_l1 (n, []) = some (m, out) ∧ out.length ≤ 9 ∧ 0 ≤ m ∧ m < 128 := by
  obtain ⟨y, hy, q⟩ := while_post (step := spec_l25Number_l1) (fun s => numInv s ∧ s.2.length ≤ 9) (fun y => y.2.length ≤ 9 ∧ 0 ≤ y.1 ∧ y.1 < 128) (fun s => s.1.toNat) (by
    rintro ⟨n, out⟩ ⟨h, hl⟩
    obtain ⟨e, h2⟩ := l25_step h
    rw [e]
    by_cases hn : 128 ≤ n
    · rw [if_pos hn]
      refine .inl ⟨_, rfl, ⟨(h2 hn).1, ?_⟩, ?_⟩
      · have := (h2 hn).2; simp; omega
      · show (n / 128).toNat < n.toNat; omega
    · rw [if_neg hn]
      exact .inr ⟨_, rfl, hl, h.1, by omega⟩) (s := (n, [])) ⟨⟨h0, by simpa using h1⟩, by simp⟩
  exact ⟨y.1, y.2, hy, q⟩

theorem appendNumber_loop {n : Int} {b : List UInt8} (h0 : 0 ≤ n) (h1 : n ≤ 9223372036854775807) (hb : b.length ≤ 1099511627776) {m : Int} {out : List UInt8} (h : whileE spec_l25Number_l1 (n, []) = some (m, out)) :
    whileE impl_appendNumber_l1 (b, n) = some (b ++ out, m) := by
  have := while_sim (step := spec_l25Number_l1) (step' := impl_appendNumber_l1) (fun s => (b ++ s.2, s.1)) (fun s => (b ++ s.2, s.1)) numInv (by
    rintro ⟨n, out⟩ hi
    obtain ⟨e, h2⟩ := l25_step hi
    rw [e]
    by_cases hn : 128 ≤ n
    · obtain ⟨h3, h4⟩ := h2 hn
      have ht : n.tdiv 128 = n / 128 := Int.tdiv_eq_ediv_of_nonneg hi.1
      have hbig : n ≤ 9223372036854775807 := by
        have : n * 1 ≤ n * 128 ^ out.length := Int.mul_le_mul_of_nonneg_left (pow1 _) hi.1
        have := hi.2
        simp only at this
        omega
      simp only [impl_appendNumber_l1, hn, decide_true, if_true, nz_of (show (128 : Int) ≠ 0 by decide), ck_true]
      rw [appOk_of (by simp; omega), ck_true, ht, wrap_i64 (n := n / 128) (by omega) (by omega)]
      simp [numStep]
    · simp [impl_appendNumber_l1, hn]) (by
    rintro ⟨n, out⟩ s' hi e
    obtain ⟨e2, h2⟩ := l25_step hi
    rw [e2] at e
    split at e
    · cases e; rename_i hn; exact (h2 hn).1
    · cases e) (s := (n, [])) ⟨h0, by simpa using h1⟩ h
  simpa using this

/-- The bytes of a number that is not negative. -/
theorem number_is {n : Int} (h0 : 0 ≤ n) (h1 : n ≤ 9223372036854775807) : ∃ l : List UInt8, l.length ≤ 10 ∧ spec_l25Number n = some l ∧ ∀ b : List UInt8, b.length ≤ 1099511627776 → impl_appendNumber b n = some (b ++ l) := by
  obtain ⟨m, out, h, hl, hm⟩ := l25Number_some h0 h1
  refine ⟨out ++ [toU8 (IntKind.u8.wrap m)], by simp; omega, ?_, fun b hb => ?_⟩
  · unfold spec_l25Number
    rw [h]
    simp only [Option.bind_some]
    rw [appOk_of (by simp; omega), ck_true]
  · unfold impl_appendNumber
    rw [appendNumber_loop h0 h1 hb h]
    simp only [Option.bind_some]
    rw [appOk_of (by simp; omega), ck_true, List.append_assoc]

end Go.Proofs.YtpjpfdoaemoddaaGreat

/- What typed forms say: reading numbers. No condition. -/
namespace Go.Proofs.YtpjpfdoaemoddaaGreat
open Go Go.RowKit
set_option linter.unusedSimpArgs false
set_option linter.unusedVariables false

def rdInv (s : Int × Int) : Prop := ∃ n i : Nat, s = ((n : Int), (i : Int)) ∧ i ≤ 9 ∧ n < 2 ^ (7 * i)

theorem rd_pow {i : Nat} (h : i < 9) : (2 : Nat) ^ (7 * i) ≤ 2 ^ 56 ∧ 2 ^ (7 * (i + 1)) = 128 * 2 ^ (7 * i) := by
  refine ⟨Nat.pow_le_pow_right (by omega) (by omega), ?_⟩
  rw [show 7 * (i + 1) = 7 + 7 * i by omega, Nat.pow_add]

theorem rd_wrap {i : Nat} (h : i < 9) : IntKind.i64.wrap (7 * (i : Int)) = ((7 * i : Nat) : Int) := by
  rw [wrap_i64 (by omega) (by omega)]; simp
theorem rd_wrapu {i : Nat} (h : i < 9) : IntKind.u64.wrap ((7 * i : Nat) : Int) = ((7 * i : Nat) : Int) := by
  unfold IntKind.wrap IntKind.bits; simp [IntKind.signed]; omega

theorem rd_step {b : List UInt8} {n i : Nat} {c : UInt8} (hgc : b.getD i default = c) (hi : i < 9) (hb : i < b.length) (hn : n < 2 ^ (7 * i)) :
    spec_l25Read_l1 b ((n : Int), (i : Int)) = some (if c < 128 then (if 0 < i ∧ c = 0 then .inr (.inr (0, 0, false)) else .inr (.inr (((n + (c).toNat % 128 * 2 ^ (7 * i) : Nat) : Int), ((i + 1 : Nat) : Int), true)))
      else .inl (((n + (c).toNat % 128 * 2 ^ (7 * i) : Nat) : Int), ((i + 1 : Nat) : Int))) ∧
    impl_ReadNumber_l1 b ((n : Int), (i : Int)) = spec_l25Read_l1 b ((n : Int), (i : Int)) ∧ n + (c).toNat % 128 * 2 ^ (7 * i) < 2 ^ (7 * (i + 1)) := by
  obtain ⟨p1, p2⟩ := rd_pow hi
  have hc : (c).toNat % 128 < 128 := Nat.mod_lt _ (by omega)
  have hlt : n + (c).toNat % 128 * 2 ^ (7 * i) < 2 ^ (7 * (i + 1)) := by
    rw [p2]
    have : (c).toNat % 128 * 2 ^ (7 * i) ≤ 127 * 2 ^ (7 * i) := Nat.mul_le_mul_right _ (by omega)
    omega
  have hbig : n + (c).toNat % 128 * 2 ^ (7 * i) < 2 ^ 63 := by omega
  have hor := or_add (n := n) (a := (c).toNat % 128) hn hbig
  have hadd : IntKind.i64.wrap ((n : Int) + ((((c).toNat % 128 * 2 ^ (7 * i) : Nat)) : Int)) = ((n + (c).toNat % 128 * 2 ^ (7 * i) : Nat) : Int) := by
    rw [wrap_i64 (by omega) (by omega)]; simp
  have hsh : IntKind.i64.wrap ((((c).toNat % 128 : Nat) : Int) * 2 ^ (7 * i)) = (((c).toNat % 128 * 2 ^ (7 * i) : Nat) : Int) := by
    have e : (((c).toNat % 128 : Nat) : Int) * 2 ^ (7 * i) = (((c).toNat % 128 * 2 ^ (7 * i) : Nat) : Int) := by
      rw [Int.natCast_mul, Int.natCast_pow]; rfl
    rw [e, wrap_i64 (by omega) (by omega)]
  have hm : min (7 * i) 64 = 7 * i := by omega
  have h7 : IntKind.i64.wrap (((c).toNat % 128 : Nat) : Int) = (((c).toNat % 128 : Nat) : Int) := wrap_i64 (by omega) (by omega)
  have c1 : decide ((((c).toNat : Nat) : Int) < 128) = decide (c < 128) := by
    simp only [UInt8.lt_iff_toNat_lt]; simp; omega
  have c2 : ((((c).toNat : Nat) : Int) == 0) = decide (c = 0) := by
    rw [Bool.eq_iff_iff]; simp [← UInt8.toNat_inj]
  have e1 : spec_l25Read_l1 b ((n : Int), (i : Int)) = some (if c < 128 then (if 0 < i ∧ c = 0 then .inr (.inr (0, 0, false)) else .inr (.inr (((n + (c).toNat % 128 * 2 ^ (7 * i) : Nat) : Int), ((i + 1 : Nat) : Int), true)))
      else .inl (((n + (c).toNat % 128 * 2 ^ (7 * i) : Nat) : Int), ((i + 1 : Nat) : Int))) := by
    simp only [spec_l25Read_l1, ixOk_nat, hb, Int.toNat_natCast, hgc, and127, rd_wrap hi, rd_wrapu hi, hm, h7, hsh, hadd, c1, c2, wrap_nat1 (show i < 9223372036854775807 by omega)]
    have h9 : decide ((i : Int) < 9) = true := by simp; omega
    have h0 : decide ((0 : Int) < i) = decide (0 < i) := by simp
    rw [shOk_of (by omega), h9, h0]
    simp only [Int.ofNat_lt, hb, decide_true, Bool.and_self, if_true, ck_true]
    by_cases a1 : c < 128
    · by_cases a2 : 0 < i <;> by_cases a3 : c = 0 <;> simp [a1, a2, a3]
    · simp [a1]
  refine ⟨e1, ?_, hlt⟩
  rw [e1]
  simp only [impl_ReadNumber_l1, ixOk_nat, hb, Int.toNat_natCast, hgc, and127, rd_wrap hi, hm, h7, hsh, hor, c1, c2, wrap_nat1 (show i < 9223372036854775807 by omega)]
  have h9 : decide ((i : Int) < 9) = true := by simp; omega
  have h0 : decide ((0 : Int) < i) = decide (0 < i) := by simp
  rw [shOk_of (by omega), h9, h0]
  simp only [Int.ofNat_lt, hb, decide_true, Bool.and_self, if_true, ck_true]
  by_cases a1 : c < 128
  · by_cases a2 : 0 < i <;> by_cases a3 : c = 0 <;> simp [a1, a2, a3]
  · simp [a1]

theorem rd_end {b : List UInt8} {n i : Nat} (h : ¬ (i < b.length ∧ i < 9)) : spec_l25Read_l1 b ((n : Int), (i : Int)) = some (.inr (.inl ())) ∧ impl_ReadNumber_l1 b ((n : Int), (i : Int)) = some (.inr (.inl ())) := by
  have : ((decide ((i : Int) < (b.length : Int))) && (decide ((i : Int) < 9))) = false := by
    rw [Bool.and_eq_false_iff]; simp; omega
  simp only [spec_l25Read_l1, impl_ReadNumber_l1, this, Bool.false_eq_true, if_false, and_self]

/-- Both read the same number. -/
theorem read_is (b : List UInt8) : ∃ (n k : Nat) (ok : Bool), spec_l25Read b = some ((n : Int), (k : Int), ok) ∧ impl_ReadNumber b = some ((n : Int), (k : Int), ok) ∧ n < 2 ^ 63 ∧ k ≤ b.length ∧ k ≤ 9 := by
  have hc : whileE (impl_ReadNumber_l1 b) ((0 : Int), (0 : Int)) = whileE (spec_l25Read_l1 b) (0, 0) := by
    refine while_congr rdInv ?_ ?_ ⟨0, 0, rfl, by omega, by simp⟩
    · rintro s ⟨n, i, rfl, h9, hn⟩
      by_cases h : i < b.length ∧ i < 9
      · exact (rd_step rfl h.2 h.1 hn).2.1
      · rw [(rd_end h).1, (rd_end h).2]
    · rintro s s' ⟨n, i, rfl, h9, hn⟩ e
      by_cases h : i < b.length ∧ i < 9
      · obtain ⟨a1, a2, a3⟩ := rd_step rfl h.2 h.1 hn
        rw [a2, a1] at e
        split at e
        · split at e <;> cases e
        · cases e; exact ⟨_, _, rfl, by omega, a3⟩
      · rw [(rd_end h).2] at e; cases e
  obtain ⟨y, hy, hq⟩ := while_post (step := spec_l25Read_l1 b) rdInv (fun y => y = .inl () ∨ ∃ (n k : Nat) (ok : Bool), y = .inr ((n : Int), (k : Int), ok) ∧ n < 2 ^ 63 ∧ k ≤ b.length ∧ k ≤ 9) (fun s => 9 - s.2.toNat) (by
    rintro s ⟨n, i, rfl, h9, hn⟩
    by_cases h : i < b.length ∧ i < 9
    · obtain ⟨a1, a2, a3⟩ := rd_step rfl h.2 h.1 hn
      rw [a1]
      split
      · split
        · exact .inr ⟨_, rfl, .inr ⟨0, 0, false, rfl, by omega, by omega, by omega⟩⟩
        · refine .inr ⟨_, rfl, .inr ⟨_, _, true, rfl, Nat.lt_of_lt_of_le a3 (Nat.pow_le_pow_right (by omega) (by omega)), by omega, by omega⟩⟩
      · exact .inl ⟨_, rfl, ⟨_, _, rfl, by omega, a3⟩, by simp; omega⟩
    · exact .inr ⟨_, (rd_end h).1, .inl rfl⟩) (s := (0, 0)) ⟨0, 0, rfl, by omega, by simp⟩
  simp only [spec_l25Read, impl_ReadNumber, hc, hy, Option.bind_some]
  rcases hq with rfl | ⟨n, k, ok, rfl, h1, h2, h3⟩
  · exact ⟨0, 0, false, rfl, rfl, by omega, by omega, by omega⟩
  · exact ⟨n, k, ok, rfl, rfl, h1, h2, h3⟩

end Go.Proofs.YtpjpfdoaemoddaaGreat

/- What typed forms say: the bytes of a number are read back. No condition. -/
namespace Go.Proofs.YtpjpfdoaemoddaaGreat
open Go Go.RowKit
set_option linter.unusedSimpArgs false
set_option linter.unusedVariables false

/-- the bytes of a number -/
def numP (n : Nat) : List UInt8 := if n < 128 then [UInt8.ofNat n] else UInt8.ofNat (n % 128 + 128) :: numP (n / 128)
termination_by n
decreasing_by omega

theorem numP_lo {n : Nat} (h : n < 128) : numP n = [UInt8.ofNat n] := by rw [numP, if_pos h]
theorem numP_hi {n : Nat} (h : ¬ n < 128) : numP n = UInt8.ofNat (n % 128 + 128) :: numP (n / 128) := by rw [numP, if_neg h]

theorem numStep_is (n : Nat) : numStep (n : Int) = UInt8.ofNat (n % 128 + 128) := by
  unfold numStep toU8
  rw [Int.tmod_eq_emod_of_nonneg (by omega), wrap_i64 (by omega) (by omega), wrap_u8 (by omega) (by omega)]
  congr 1

theorem num_list : ∀ (k n : Nat) (out : List UInt8), n < k → numInv ((n : Int), out) → ∃ m out', whileE spec_l25Number_l1 ((n : Int), out) = some (m, out') ∧ out' ++ [toU8 (IntKind.u8.wrap m)] = out ++ numP n ∧ out'.length ≤ out.length + n
  | 0, n, _, h, _ => absurd h (by omega)
  | k + 1, n, out, h, hi => by
    obtain ⟨e, h2⟩ := l25_step hi
    by_cases hn : n < 128
    · rw [if_neg (by omega)] at e
      refine ⟨(n : Int), out, whileE_done e, ?_, by omega⟩
      rw [numP_lo hn, wrap_u8 (by omega) (by omega)]
      simp [toU8]
    · have hn' : (128 : Int) ≤ (n : Int) := by omega
      rw [if_pos hn'] at e
      have hd : (n : Int) / 128 = ((n / 128 : Nat) : Int) := by omega
      rw [hd, numStep_is] at e
      have h3 := (h2 hn').1
      rw [hd, numStep_is] at h3
      obtain ⟨m, out', e2, e3, e4⟩ := num_list k (n / 128) (out ++ [UInt8.ofNat (n % 128 + 128)]) (by omega) h3
      refine ⟨m, out', by rw [whileE_next e, e2], ?_, ?_⟩
      · rw [e3, numP_hi hn, List.append_assoc]; rfl
      · simp only [List.length_append, List.length_singleton] at e4; omega

theorem number_numP {n : Nat} (h : n ≤ 9223372036854775807) : spec_l25Number (n : Int) = some (numP n) := by
  obtain ⟨l, hl, e, _⟩ := number_is (n := (n : Int)) (by omega) (by omega)
  obtain ⟨m, out, e1, e2, _⟩ := num_list (n + 1) n [] (by omega) ⟨by show (0 : Int) ≤ (n : Int); omega, by show (n : Int) * 128 ^ 0 ≤ _; omega⟩
  rw [e]
  unfold spec_l25Number at e
  rw [e1] at e
  simp only [Option.bind_some] at e
  unfold ck at e
  split at e
  · have : l = out ++ [toU8 (IntKind.u8.wrap m)] := by simpa using e.symm
    rw [this, e2]; rfl
  · cases e

theorem read_numP : ∀ (k n : Nat) (b pre : List UInt8) (acc : Nat), n < k → b = pre ++ numP n → acc < 2 ^ (7 * pre.length) → (pre.length = 0 ∨ 0 < n) → n * 2 ^ (7 * pre.length) < 2 ^ 63 →
    whileE (spec_l25Read_l1 b) ((acc : Int), (pre.length : Int)) = some (.inr (((acc + n * 2 ^ (7 * pre.length) : Nat) : Int), ((b.length : Nat) : Int), true))
  | 0, n, _, _, _, h, _, _, _, _ => absurd h (by omega)
  | k + 1, n, b, pre, acc, h, hb, ha, h0, hn => by
    have h9 : pre.length < 9 := by
      rcases h0 with h0 | h0
      · omega
      · have : 1 * 2 ^ (7 * pre.length) ≤ n * 2 ^ (7 * pre.length) := Nat.mul_le_mul_right _ h0
        have h3 : 2 ^ (7 * pre.length) < 2 ^ 63 := by omega
        have := (Nat.pow_lt_pow_iff_right (show 1 < 2 by decide)).1 h3
        omega
    by_cases hlo : n < 128
    · rw [numP_lo hlo] at hb
      have hl : b.length = pre.length + 1 := by rw [hb]; simp
      have hg : b.getD pre.length default = UInt8.ofNat n := by rw [hb]; simp
      have ht : (UInt8.ofNat n).toNat = n := by simp; omega
      obtain ⟨e, _, _⟩ := rd_step hg h9 (by omega) ha
      have c1 : UInt8.ofNat n < 128 := by rw [UInt8.lt_iff_toNat_lt, ht]; exact hlo
      have c2 : ¬ (0 < pre.length ∧ UInt8.ofNat n = 0) := by
        rintro ⟨a, c⟩
        have : (UInt8.ofNat n).toNat = 0 := by rw [c]; rfl
        omega
      rw [if_pos c1, if_neg c2, ht, Nat.mod_eq_of_lt hlo] at e
      rw [whileE_done e, hl]
    · rw [numP_hi hlo] at hb
      have hl : pre.length < b.length := by rw [hb]; simp
      have hg : b.getD pre.length default = UInt8.ofNat (n % 128 + 128) := by rw [hb]; simp
      have ht : (UInt8.ofNat (n % 128 + 128)).toNat = n % 128 + 128 := by simp; omega
      obtain ⟨e, _, e3⟩ := rd_step hg h9 hl ha
      have c1 : ¬ UInt8.ofNat (n % 128 + 128) < 128 := by rw [UInt8.lt_iff_toNat_lt, ht]; show ¬ n % 128 + 128 < 128; omega
      have hm : (n % 128 + 128) % 128 = n % 128 := by omega
      rw [if_neg c1, ht, hm] at e
      rw [ht, hm] at e3
      have hp : 2 ^ (7 * (pre.length + 1)) = 128 * 2 ^ (7 * pre.length) := (rd_pow h9).2
      have hq : n / 128 * 128 + n % 128 = n := by omega
      have hsum : n / 128 * (128 * 2 ^ (7 * pre.length)) + n % 128 * 2 ^ (7 * pre.length) = n * 2 ^ (7 * pre.length) := by
        rw [← Nat.mul_assoc, ← Nat.add_mul, hq]
      have := read_numP k (n / 128) b (pre ++ [UInt8.ofNat (n % 128 + 128)]) (acc + n % 128 * 2 ^ (7 * pre.length)) (by omega) (by rw [hb, List.append_assoc]; rfl)
        (by rw [List.length_append, List.length_singleton]; exact e3) (.inr (by omega)) (by rw [List.length_append, List.length_singleton, hp]; omega)
      rw [List.length_append, List.length_singleton, hp] at this
      rw [whileE_next e, this]
      have hs : acc + n % 128 * 2 ^ (7 * pre.length) + n / 128 * (128 * 2 ^ (7 * pre.length)) = acc + n * 2 ^ (7 * pre.length) := by omega
      rw [hs]

end Go.Proofs.YtpjpfdoaemoddaaGreat

