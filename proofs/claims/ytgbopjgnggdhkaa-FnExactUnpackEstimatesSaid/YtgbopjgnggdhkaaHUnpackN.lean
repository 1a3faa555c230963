/- What typed forms say: numbers read from the front. No condition. -/
import Derived.Test.YtgbopjgnggdhkaaHRead
import Derived.Test.YtgbopjgnggdhkaaHClose
namespace Go.Proofs.Ytgbopjgnggdhkaa
open Go Go.RowKit
set_option linter.unusedSimpArgs false
set_option linter.unusedVariables false

theorem cut_drop {b : List UInt8} {a : Int} : cut b a (b.length : Int) = b.drop a.toNat := by
  simp [cut]

/-! ### Folded numbers -/

theorem unfold_same (n : Int) : impl_unfold n = spec_l25Unfold n := id rfl

theorem unfold_is {n : Int} (h0 : 0 ≤ n) (h1 : n ≤ 100000) : ∃ m : Int, spec_l25Unfold n = some m ∧ -50001 ≤ m ∧ m ≤ 50000 ∧ (44000 < n → m < -22000 ∨ 22000 < m) := by
  unfold spec_l25Unfold
  rw [nz_of (show (2 : Int) ≠ 0 by decide), ck_true, Int.tmod_eq_emod_of_nonneg h0]
  have w1 : IntKind.i64.wrap (n + 1) = n + 1 := wrap_i64 (by omega) (by omega)
  have w2 : IntKind.i64.wrap (0 - (n + 1)) = -(n + 1) := by rw [wrap_i64 (by omega) (by omega)]; omega
  have t : (-(n + 1)).tdiv 2 = -((n + 1) / 2) := by rw [Int.neg_tdiv, Int.tdiv_eq_ediv_of_nonneg (by omega)]
  have t2 : n.tdiv 2 = n / 2 := Int.tdiv_eq_ediv_of_nonneg h0
  by_cases h : n % 2 = 1
  · have e : (n % 2 == 1) = true := by simpa using h
    rw [if_pos e, w1, w2, t, wrap_i64 (by omega) (by omega)]
    exact ⟨_, rfl, by omega, by omega, by omega⟩
  · have e : ¬ (n % 2 == 1) = true := by simpa using h
    rw [if_neg e, t2, wrap_i64 (by omega) (by omega)]
    exact ⟨_, rfl, by omega, by omega, by omega⟩

theorem unfold_some (n : Int) : ∃ m, spec_l25Unfold n = some m := by
  unfold spec_l25Unfold
  rw [nz_of (show (2 : Int) ≠ 0 by decide), ck_true]
  split <;> exact ⟨_, rfl⟩

/-! ### Numbers read from the front -/

structure Rel (body : List UInt8) (r : L25R) (u : Unpacker) : Prop where
  b : r.b_ = body
  lo : 0 ≤ r.at_
  hi : r.at_ ≤ body.length
  ok : r.ok_ = true
  rest : u.rest_ = body.drop r.at_.toNat
  good : u.bad_ = false

theorem num_is {body : List UInt8} {r : L25R} {u : Unpacker} (hb : body.length ≤ 1048576) (h : Rel body r u) : ∃ (n : Nat) (ok : Bool) (r' : L25R) (u' : Unpacker), Rel body r' u' ∧
    ∀ most : Int, spec_l25R_number r most = some (if (!ok || decide (most < (n : Int))) = true then (0, ⟨body, r.at_, false⟩) else ((n : Int), r')) ∧
      impl_unpacker_number u most = some (if (!ok || decide (most < (n : Int))) = true then (0, ⟨u.rest_, true⟩) else ((n : Int), u')) := by
  obtain ⟨rb, ra, ro⟩ := r
  obtain ⟨ur, ub⟩ := u
  obtain ⟨h1, h2, h3, h4, h5, h6⟩ := h
  simp only at h1 h2 h3 h4 h5 h6
  subst h1 h4 h5 h6
  obtain ⟨n, k, ok, e1, e2, hn, hk, hk9⟩ := read_is (rb.drop ra.toNat)
  rw [List.length_drop] at hk
  refine ⟨n, ok, ⟨rb, ra + k, true⟩, ⟨rb.drop (ra + (k : Int)).toNat, false⟩, ⟨rfl, by show 0 ≤ ra + (k : Int); omega, by show ra + (k : Int) ≤ rb.length; omega, rfl, rfl, rfl⟩, fun most => ⟨?_, ?_⟩⟩
  · unfold spec_l25R_number
    simp only
    rw [cutOk_of h2 h3 (by omega), ck_true, cut_drop, e1]
    simp only [Option.bind_some]
    rw [wrap_i64 (n := ra + (k : Int)) (by omega) (by omega)]
    split <;> rfl
  · unfold impl_unpacker_number
    simp only
    rw [e2]
    simp only [Option.bind_some, Bool.false_or]
    split
    · rfl
    · rw [cutOk_of (by omega) (by rw [List.length_drop]; omega) (by omega), ck_true, cut_drop, List.drop_drop]
      have : ra.toNat + (k : Int).toNat = (ra + (k : Int)).toNat := by omega
      rw [this]

theorem num_total {r : L25R} (hb : r.b_.length ≤ 1048576) (h0 : 0 ≤ r.at_) (h1 : r.at_ ≤ r.b_.length) (most : Int) : ∃ n r', spec_l25R_number r most = some (n, r') ∧ r'.b_ = r.b_ ∧ 0 ≤ r'.at_ ∧ r'.at_ ≤ r.b_.length ∧ (r.ok_ = false → r'.ok_ = false) := by
  obtain ⟨rb, ra, ro⟩ := r
  simp only at hb h0 h1
  obtain ⟨n, k, ok, e1, e2, hn, hk, hk9⟩ := read_is (rb.drop ra.toNat)
  rw [List.length_drop] at hk
  unfold spec_l25R_number
  simp only
  rw [cutOk_of h0 h1 (by omega), ck_true, cut_drop, e1]
  simp only [Option.bind_some]
  split
  · exact ⟨_, _, rfl, rfl, h0, h1, fun _ => rfl⟩
  · rw [wrap_i64 (n := ra + (k : Int)) (by omega) (by omega)]
    exact ⟨_, _, rfl, rfl, by show 0 ≤ ra + (k : Int); omega, by show ra + (k : Int) ≤ rb.length; omega, fun c => c⟩

theorem bad_num {u : Unpacker} (h : u.bad_ = true) (most : Int) : impl_unpacker_number u most = some (0, ⟨u.rest_, true⟩) := by
  unfold impl_unpacker_number
  obtain ⟨n, k, ok, e1, e2, _⟩ := read_is u.rest_
  rw [e2]
  simp [h]

end Go.Proofs.Ytgbopjgnggdhkaa
