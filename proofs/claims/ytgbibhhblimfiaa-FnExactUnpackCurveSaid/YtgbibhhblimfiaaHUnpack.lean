/- What typed forms say: reading packed curves. No condition. -/
import Derived.Test.YtgbibhhblimfiaaHRead
import Derived.Test.YtgbibhhblimfiaaHCurve
namespace Go.Proofs.Ytgbibhhblimfiaa
open Go Go.RowKit
set_option linter.unusedSimpArgs false
set_option linter.unusedVariables false

theorem cut_drop {b : List UInt8} {a : Int} : cut b a (b.length : Int) = b.drop a.toNat := by
  simp [cut]

theorem check_same {b : List UInt8} (hl : b.length ≤ 1048576) : ∃ q, spec_l25Open b 67 = some q ∧ impl_checkPacked__impl_UnpackCurve_c1 b = some q ∧ (q = 0 → 3 ≤ b.length ∧ b.length ≤ 8000) := by
  unfold spec_l25Open impl_checkPacked__impl_UnpackCurve_c1
  simp only [impl_UnpackCurve_c1, Option.isSome_some, Option.getD_some, Bool.or_true, ck_true]
  by_cases hsz : b.length < 3 ∨ 8000 < b.length
  · have e : (decide ((b.length : Int) < 3) || decide (8000 < (b.length : Int))) = true := by simp; omega
    simp only [e, Bool.not_true, Bool.not_false, Bool.true_or, ck_true, if_true]
    exact ⟨8, rfl, rfl, fun c => absurd c (by decide)⟩
  · have e : (decide ((b.length : Int) < 3) || decide (8000 < (b.length : Int))) = false := by simp; omega
    have hix : ixOk 0 b.length = true := (by rw [show (0 : Int) = ((0 : Nat) : Int) from rfl, ixOk_nat]; simp; omega)
    simp only [e, hix, Bool.or_true, ck_true, Bool.false_or]
    cases hk : (((b.getD 0 default).toNat : Int) == 67)
    · simp only [Bool.not_false, if_true]
      exact ⟨8, rfl, rfl, fun c => absurd c (by decide)⟩
    · have hw1 : IntKind.i64.wrap ((b.length : Int) - 2) = (b.length : Int) - 2 := wrap_i64 (by omega) (by omega)
      have hw2 : IntKind.i64.wrap ((b.length : Int) - 1) = (b.length : Int) - 1 := wrap_i64 (by omega) (by omega)
      have hw3 : IntKind.i64.wrap ((b.length : Int) - 2 + 1) = (b.length : Int) - 1 := by rw [show (b.length : Int) - 2 + 1 = (b.length : Int) - 1 by omega]; exact hw2
      have i1 : ixOk ((b.length : Int) - 2) b.length = true := ixOk_of (by omega) (by omega)
      have i2 : ixOk ((b.length : Int) - 1) b.length = true := ixOk_of (by omega) (by omega)
      have i3 : cutOk 0 ((b.length : Int) - 2) b.length = true := cutOk_of (by omega) (by omega) (by omega)
      obtain ⟨s, hs1, hs2, hs3, hs4⟩ := sum_is (b := cut b 0 ((b.length : Int) - 2)) (by simp only [cut, List.length_drop, List.length_take]; omega)
      simp only [hw1, hw2, hw3, i1, i2, i3, ck_true, hs1, hs4, Option.bind_some, Bool.not_true, Bool.false_eq_true, if_false]
      have c1 : (256 : Int) * ((b.getD ((b.length : Int) - 2).toNat default).toNat : Int) = ((b.getD ((b.length : Int) - 2).toNat default).toNat : Int) * 256 := Int.mul_comm _ _
      rw [c1]
      generalize IntKind.i64.wrap (IntKind.i64.wrap (((b.getD ((b.length : Int) - 2).toNat default).toNat : Int) * 256) + ((b.getD ((b.length : Int) - 1).toNat default).toNat : Int)) = q
      rw [beq_comm' q s]
      cases (s == q)
      · exact ⟨9, rfl, rfl, fun c => absurd c (by decide)⟩
      · exact ⟨0, rfl, rfl, fun _ => by omega⟩

/-! ### Folded numbers -/

theorem unfold_same (n : Int) : impl_unfold n = spec_l25Unfold n := id rfl

theorem unfold_is {n : Int} (h0 : 0 ≤ n) (h1 : n ≤ 100000) : ∃ m : Int, spec_l25Unfold n = some m ∧ -50001 ≤ m ∧ m ≤ 50000 ∧ (44000 < n → m < -22000 ∨ 22000 < m) := by
  unfold spec_l25Unfold
  rw [nz_of (show (2 : Int) ≠ 0 by decide), ck_true, Int.tmod_eq_emod_of_nonneg h0]
  have w1 : IntKind.i64.wrap (n + 1) = n + 1 := wrap_i64 (by omega) (by omega)
  have w2 : IntKind.i64.wrap (0 - (n + 1)) = -(n + 1) := by rw [wrap_i64 (by omega) (by omega)]; omega
  have t : (-(n + 1)).tdiv 2 = -((n + 1) / 2) := by rw [Int.neg_tdiv, Int.tdiv_eq_ediv_of_nonneg (by omega)]
  have t2 : n.tdiv 2 = n / 2 := Int.tdiv_eq_ediv_of_nonneg h0
  by_cases h : n % 2 = 1
  · have e : (n % 2 == 1) = true := by simpa using h
    rw [if_pos e, w1, w2, t, wrap_i64 (by omega) (by omega)]
    exact ⟨_, rfl, by omega, by omega, by omega⟩
  · have e : ¬ (n % 2 == 1) = true := by simpa using h
    rw [if_neg e, t2, wrap_i64 (by omega) (by omega)]
    exact ⟨_, rfl, by omega, by omega, by omega⟩

theorem unfold_some (n : Int) : ∃ m, spec_l25Unfold n = some m := by
  unfold spec_l25Unfold
  rw [nz_of (show (2 : Int) ≠ 0 by decide), ck_true]
  split <;> exact ⟨_, rfl⟩

/-! ### Numbers read from the front -/

structure Rel (body : List UInt8) (r : L25R) (u : Unpacker) : Prop where
  b : r.b_ = body
  lo : 0 ≤ r.at_
  hi : r.at_ ≤ body.length
  ok : r.ok_ = true
  rest : u.rest_ = body.drop r.at_.toNat
  good : u.bad_ = false

theorem num_is {body : List UInt8} {r : L25R} {u : Unpacker} (hb : body.length ≤ 1048576) (h : Rel body r u) : ∃ (n : Nat) (ok : Bool) (r' : L25R) (u' : Unpacker), Rel body r' u' ∧
    ∀ most : Int, spec_l25R_number r most = some (if (!ok || decide (most < (n : Int))) = true then (0, ⟨body, r.at_, false⟩) else ((n : Int), r')) ∧
      impl_unpacker_number u most = some (if (!ok || decide (most < (n : Int))) = true then (0, ⟨u.rest_, true⟩) else ((n : Int), u')) := by
  obtain ⟨rb, ra, ro⟩ := r
  obtain ⟨ur, ub⟩ := u
  obtain ⟨h1, h2, h3, h4, h5, h6⟩ := h
  simp only at h1 h2 h3 h4 h5 h6
  subst h1 h4 h5 h6
  obtain ⟨n, k, ok, e1, e2, hn, hk, hk9⟩ := read_is (rb.drop ra.toNat)
  rw [List.length_drop] at hk
  refine ⟨n, ok, ⟨rb, ra + k, true⟩, ⟨rb.drop (ra + (k : Int)).toNat, false⟩, ⟨rfl, by show 0 ≤ ra + (k : Int); omega, by show ra + (k : Int) ≤ rb.length; omega, rfl, rfl, rfl⟩, fun most => ⟨?_, ?_⟩⟩
  · unfold spec_l25R_number
    simp only
    rw [cutOk_of h2 h3 (by omega), ck_true, cut_drop, e1]
    simp only [Option.bind_some]
    rw [wrap_i64 (n := ra + (k : Int)) (by omega) (by omega)]
    split <;> rfl
  · unfold impl_unpacker_number
    simp only
    rw [e2]
    simp only [Option.bind_some, Bool.false_or]
    split
    · rfl
    · rw [cutOk_of (by omega) (by rw [List.length_drop]; omega) (by omega), ck_true, cut_drop, List.drop_drop]
      have : ra.toNat + (k : Int).toNat = (ra + (k : Int)).toNat := by omega
      rw [this]

theorem num_total {r : L25R} (hb : r.b_.length ≤ 1048576) (h0 : 0 ≤ r.at_) (h1 : r.at_ ≤ r.b_.length) (most : Int) : ∃ n r', spec_l25R_number r most = some (n, r') ∧ r'.b_ = r.b_ ∧ 0 ≤ r'.at_ ∧ r'.at_ ≤ r.b_.length ∧ (r.ok_ = false → r'.ok_ = false) := by
  obtain ⟨rb, ra, ro⟩ := r
  simp only at hb h0 h1
  obtain ⟨n, k, ok, e1, e2, hn, hk, hk9⟩ := read_is (rb.drop ra.toNat)
  rw [List.length_drop] at hk
  unfold spec_l25R_number
  simp only
  rw [cutOk_of h0 h1 (by omega), ck_true, cut_drop, e1]
  simp only [Option.bind_some]
  split
  · exact ⟨_, _, rfl, rfl, h0, h1, fun _ => rfl⟩
  · rw [wrap_i64 (n := ra + (k : Int)) (by omega) (by omega)]
    exact ⟨_, _, rfl, rfl, by show 0 ≤ ra + (k : Int); omega, by show ra + (k : Int) ≤ rb.length; omega, fun c => c⟩

theorem bad_num {u : Unpacker} (h : u.bad_ = true) (most : Int) : impl_unpacker_number u most = some (0, ⟨u.rest_, true⟩) := by
  unfold impl_unpacker_number
  obtain ⟨n, k, ok, e1, e2, _⟩ := read_is u.rest_
  rw [e2]
  simp [h]

/-! ### The loops -/

theorem spec_loop (b : List UInt8) : ∀ (k : Nat) (r : L25R) (out : List Point) (time mag : Int), r.b_.length ≤ 1048576 → 0 ≤ r.at_ → r.at_ ≤ r.b_.length → out.length + k ≤ 1000 →
    ∃ rf ext, whileE (spec_UnpackCurve_l1 b) (r, out, time, mag, (k : Int)) = some (rf, out ++ ext) ∧ ext.length ≤ k ∧ (r.ok_ = false → rf.ok_ = false)
  | 0, r, out, time, mag, h1, h2, h3, h4 => ⟨r, [], by rw [whileE_done (r := (r, out)) (by simp [spec_UnpackCurve_l1])]; simp, by simp, fun c => c⟩
  | k + 1, r, out, time, mag, h1, h2, h3, h4 => by
    by_cases ho : r.ok_ = true
    · obtain ⟨n1, r1, e1, b1, l1, u1, _⟩ := num_total h1 h2 h3 10000000
      obtain ⟨n2, r2, e2, b2, l2, u2, _⟩ := num_total (r := r1) (by rw [b1]; exact h1) l1 (by rw [b1]; exact u1) 100000
      obtain ⟨m, em⟩ := unfold_some n2
      have hs : spec_UnpackCurve_l1 b (r, out, time, mag, ((k + 1 : Nat) : Int)) = some (.inl (r2, out ++ [⟨IntKind.i64.wrap (time + n1), IntKind.i64.wrap (mag + m)⟩], IntKind.i64.wrap (time + n1), IntKind.i64.wrap (mag + m), (k : Int))) := by
        have p : decide ((0 : Int) < ((k + 1 : Nat) : Int)) = true := decide_eq_true (by omega)
        have w : IntKind.i64.wrap (((k + 1 : Nat) : Int) - 1) = (k : Int) := by rw [wrap_i64 (by omega) (by omega)]; omega
        simp only [spec_UnpackCurve_l1, p, ho, Bool.and_self, if_true, e1, e2, em, Option.bind_some, w]
        rw [appOk_of (by simp; omega), ck_true]
      rw [whileE_next hs]
      obtain ⟨rf, ext, q1, q2, q3⟩ := spec_loop b k r2 (out ++ [⟨IntKind.i64.wrap (time + n1), IntKind.i64.wrap (mag + m)⟩]) (IntKind.i64.wrap (time + n1)) (IntKind.i64.wrap (mag + m)) (by rw [b2, b1]; exact h1) l2 (by rw [b2]; exact u2) (by simp; omega)
      exact ⟨rf, [⟨IntKind.i64.wrap (time + n1), IntKind.i64.wrap (mag + m)⟩] ++ ext, by rw [q1, List.append_assoc], by simp; omega, fun c => by rw [ho] at c; cases c⟩
    · have ho' : r.ok_ = false := by simpa using ho
      exact ⟨r, [], by rw [whileE_done (r := (r, out)) (by simp [spec_UnpackCurve_l1, ho'])]; simp, by simp, fun _ => ho'⟩

theorem impl_bad (b : List UInt8) (c : Int) (hc : c ≤ 1000) : ∀ (k : Nat) (u : Unpacker) (out : List Point) (time mag t : Int), u.bad_ = true → 0 ≤ t → t + k = c → out.length ≤ t + 1 →
    ∃ uf ext, whileE (impl_UnpackCurve_l1 b c) (u, out, time, mag, t) = some (uf, ext) ∧ ext.length ≤ 1002 ∧ uf.bad_ = true
  | 0, u, out, time, mag, t, h1, h2, h3, h4 => ⟨u, out, whileE_done (by
      have : ¬ t < c := by omega
      simp [impl_UnpackCurve_l1, this]), by omega, h1⟩
  | k + 1, u, out, time, mag, t, h1, h2, h3, h4 => by
    obtain ⟨m, em⟩ := unfold_some 0
    have hs : impl_UnpackCurve_l1 b c (u, out, time, mag, t) = some (.inl (⟨u.rest_, true⟩, out ++ [⟨IntKind.i64.wrap (time + 0), IntKind.i64.wrap (mag + m)⟩], IntKind.i64.wrap (time + 0), IntKind.i64.wrap (mag + m), t + 1)) := by
      have p : decide (t < c) = true := by simp; omega
      have w : IntKind.i64.wrap (t + 1) = t + 1 := wrap_i64 (by omega) (by omega)
      simp only [impl_UnpackCurve_l1, p, if_true, bad_num h1, Option.bind_some, unfold_same, w]
      rw [bad_num (u := ⟨u.rest_, true⟩) rfl]
      simp only [Option.bind_some, em]
      rw [appOk_of (by simp; omega), ck_true]
    rw [whileE_next hs]
    exact impl_bad b c hc k ⟨u.rest_, true⟩ _ _ _ _ rfl (by omega) (by omega) (by simp; omega)

/-- A point that no good curve has. -/
def spoilt (c : List Point) : Prop := ∃ i, i < c.length ∧ okP c i = false

theorem spoilt_good {c : List Point} (h : spoilt c) : goodP c = false := by
  obtain ⟨i, hi, ho⟩ := h
  cases hg : goodP c with
  | false => rfl
  | true =>
    unfold goodP at hg
    have := all_range' hg hi
    rw [ho] at this; cases this

theorem getD_app {α : Type} {c e : List α} {i : Nat} (hi : i < c.length) (d : α) : (c ++ e).getD i d = c.getD i d := by
  rw [List.getD_eq_getElem?_getD, List.getD_eq_getElem?_getD, List.getElem?_append_left hi]

theorem spoilt_app {c e : List Point} (h : spoilt c) : spoilt (c ++ e) := by
  obtain ⟨i, hi, ho⟩ := h
  refine ⟨i, by simp; omega, ?_⟩
  have h1 := getD_app (e := e) hi (default : Point)
  have h2 := getD_app (e := e) (show i - 1 < c.length by omega) (default : Point)
  unfold okP at ho ⊢
  rw [h1, h2]; exact ho

def lastMag (c : List Point) : Int := if c.length = 0 then 0 else (c.getD (c.length - 1) default).Mag

theorem spoilt_jump {c : List Point} {t m : Int} (h : m - lastMag c < -22000 ∨ 22000 < m - lastMag c) : spoilt (c ++ [⟨t, m⟩]) := by
  have e : (c ++ [(⟨t, m⟩ : Point)]).getD c.length default = ⟨t, m⟩ := by
    rw [List.getD_eq_getElem?_getD, List.getElem?_append_right (Nat.le_refl _), Nat.sub_self]; rfl
  by_cases hm : -2000 ≤ m ∧ m ≤ 20000
  · unfold lastMag at h
    split at h
    · omega
    · rename_i hl
      refine ⟨c.length - 1, by simp; omega, ?_⟩
      have h1 := getD_app (e := [(⟨t, m⟩ : Point)]) (show c.length - 1 < c.length by omega) (default : Point)
      unfold okP
      rw [h1]
      have : (decide (-2000 ≤ (c.getD (c.length - 1) default).Mag) && decide ((c.getD (c.length - 1) default).Mag ≤ 20000)) = false := by
        rw [Bool.and_eq_false_iff, decide_eq_false_iff_not, decide_eq_false_iff_not]; omega
      rw [this, Bool.and_false, Bool.false_and]
  · refine ⟨c.length, by simp, ?_⟩
    unfold okP
    rw [e]
    have : (decide (-2000 ≤ m) && decide (m ≤ 20000)) = false := by
      rw [Bool.and_eq_false_iff, decide_eq_false_iff_not, decide_eq_false_iff_not]; omega
    simp only [this, Bool.and_false, Bool.false_and]

theorem lastMag_app (c : List Point) (t m : Int) : lastMag (c ++ [⟨t, m⟩]) = m := by
  unfold lastMag
  rw [if_neg (by simp)]
  have e : (c ++ [(⟨t, m⟩ : Point)]).getD ((c ++ [(⟨t, m⟩ : Point)]).length - 1) default = ⟨t, m⟩ := by
    rw [List.length_append, List.length_cons, List.length_nil, Nat.zero_add, Nat.add_sub_cancel, List.getD_eq_getElem?_getD, List.getElem?_append_right (Nat.le_refl _), Nat.sub_self]; rfl
  rw [e]

theorem both_loop (b : List UInt8) {body : List UInt8} (hb : body.length ≤ 1048576) (c : Int) (hc : c ≤ 1000) : ∀ (k : Nat) (r : L25R) (u : Unpacker) (out : List Point) (time mag t : Int), Rel body r u → (out.length : Int) = t → t + k = c → mag = lastMag out → -50001 * t ≤ mag → mag ≤ 50000 * t →
    ∃ rf uf outS outI, whileE (spec_UnpackCurve_l1 b) (r, out, time, mag, (k : Int)) = some (rf, outS) ∧ whileE (impl_UnpackCurve_l1 b c) (u, out, time, mag, t) = some (uf, outI) ∧ outS.length ≤ 2000 ∧ outI.length ≤ 2000 ∧
      ((rf.ok_ = true ∧ uf.bad_ = false ∧ outS = outI) ∨ (uf.bad_ = true ∧ (rf.ok_ = false ∨ goodP outS = false)))
  | 0, r, u, out, time, mag, t, hr, ht, hk, hm, hm1, hm2 => by
    refine ⟨r, u, out, out, whileE_done (by simp [spec_UnpackCurve_l1]), whileE_done ?_, by omega, by omega, .inl ⟨hr.ok, hr.good, rfl⟩⟩
    have : ¬ t < c := by omega
    simp [impl_UnpackCurve_l1, this]
  | k + 1, r, u, out, time, mag, t, hr, ht, hk, hm, hm1, hm2 => by
    have p : decide ((0 : Int) < ((k + 1 : Nat) : Int)) = true := decide_eq_true (by omega)
    have w : IntKind.i64.wrap (((k + 1 : Nat) : Int) - 1) = (k : Int) := by rw [wrap_i64 (by omega) (by omega)]; omega
    have p2 : decide (t < c) = true := by simp; omega
    have w2 : IntKind.i64.wrap (t + 1) = t + 1 := wrap_i64 (by omega) (by omega)
    have ap : ∀ x : Point, appOk (out.length + ([x] : List Point).length) 16 = true := fun x => appOk_of (by simp; omega)
    obtain ⟨n1, ok1, r1, u1, hr1, e1⟩ := num_is hb hr
    obtain ⟨s1, i1⟩ := e1 10000000
    -- what happens behind a failure
    have fail : ∀ (y6 : Int) (ra : L25R) (ua : Unpacker) (y7 : Int) (rb : L25R) (ub : Unpacker) (m7 : Int), spec_l25R_number r 10000000 = some (y6, ra) → impl_unpacker_number u 10000000 = some (y6, ua) →
        spec_l25R_number ra 100000 = some (y7, rb) → rb.b_ = body → 0 ≤ rb.at_ → rb.at_ ≤ body.length → rb.ok_ = false → impl_unpacker_number ua 44000 = some (m7, ub) → ub.bad_ = true →
        ∃ rf uf outS outI, whileE (spec_UnpackCurve_l1 b) (r, out, time, mag, ((k + 1 : Nat) : Int)) = some (rf, outS) ∧ whileE (impl_UnpackCurve_l1 b c) (u, out, time, mag, t) = some (uf, outI) ∧ outS.length ≤ 2000 ∧ outI.length ≤ 2000 ∧
          ((rf.ok_ = true ∧ uf.bad_ = false ∧ outS = outI) ∨ (uf.bad_ = true ∧ (rf.ok_ = false ∨ goodP outS = false))) := by
      intro y6 ra ua y7 rb ub m7 a1 a2 a3 a4 a5 a6 a7 a8 a9
      obtain ⟨z, ez⟩ := unfold_some y7
      obtain ⟨z2, ez2⟩ := unfold_some m7
      have hs : spec_UnpackCurve_l1 b (r, out, time, mag, ((k + 1 : Nat) : Int)) = some (.inl (rb, out ++ [⟨IntKind.i64.wrap (time + y6), IntKind.i64.wrap (mag + z)⟩], IntKind.i64.wrap (time + y6), IntKind.i64.wrap (mag + z), (k : Int))) := by
        simp only [spec_UnpackCurve_l1, p, hr.ok, Bool.and_self, if_true, a1, a3, ez, Option.bind_some, w, ap, ck_true]
      have hi : impl_UnpackCurve_l1 b c (u, out, time, mag, t) = some (.inl (ub, out ++ [⟨IntKind.i64.wrap (time + y6), IntKind.i64.wrap (mag + z2)⟩], IntKind.i64.wrap (time + y6), IntKind.i64.wrap (mag + z2), t + 1)) := by
        simp only [impl_UnpackCurve_l1, p2, if_true, a2, a8, unfold_same, ez2, Option.bind_some, w2, ap, ck_true]
      rw [whileE_next hs, whileE_next hi]
      obtain ⟨rf, ext, q1, q2, q3⟩ := spec_loop b k rb (out ++ [⟨IntKind.i64.wrap (time + y6), IntKind.i64.wrap (mag + z)⟩]) (IntKind.i64.wrap (time + y6)) (IntKind.i64.wrap (mag + z)) (by rw [a4]; exact hb) a5 (by rw [a4]; exact a6) (by simp; omega)
      obtain ⟨uf, cf, v1, v2, v3⟩ := impl_bad b c hc k ub (out ++ [⟨IntKind.i64.wrap (time + y6), IntKind.i64.wrap (mag + z2)⟩]) (IntKind.i64.wrap (time + y6)) (IntKind.i64.wrap (mag + z2)) (t + 1) a9 (by omega) (by omega) (by simp; omega)
      exact ⟨rf, uf, _, cf, q1, v1, by simp; omega, by omega, .inr ⟨v3, .inl (q3 a7)⟩⟩
    by_cases c1 : (!ok1 || decide ((10000000 : Int) < (n1 : Int))) = true
    · rw [if_pos c1] at s1 i1
      obtain ⟨y7, rb, a3, a4, a5, a6, a7⟩ := num_total (r := ⟨body, r.at_, false⟩) hb hr.lo hr.hi 100000
      exact fail 0 _ _ y7 rb _ 0 s1 i1 a3 a4 a5 a6 (a7 rfl) (bad_num rfl 44000) rfl
    rw [if_neg c1] at s1 i1
    obtain ⟨n2, ok2, r2, u2, hr2, e2⟩ := num_is hb hr1
    have s2 := (e2 100000).1
    have i2 := (e2 44000).2
    by_cases c2 : (!ok2 || decide ((100000 : Int) < (n2 : Int))) = true
    · rw [if_pos c2] at s2
      have c3 : (!ok2 || decide ((44000 : Int) < (n2 : Int))) = true := by
        simp only [Bool.or_eq_true, Bool.not_eq_true', decide_eq_true_eq] at c2 ⊢
        rcases c2 with h | h
        · exact .inl h
        · exact .inr (by omega)
      rw [if_pos c3] at i2
      exact fail _ _ _ 0 ⟨body, r1.at_, false⟩ _ 0 s1 i1 s2 rfl hr1.lo hr1.hi rfl i2 rfl
    rw [if_neg c2] at s2
    simp only [Bool.or_eq_true, Bool.not_eq_true', decide_eq_true_eq, not_or, Bool.not_eq_false] at c2
    obtain ⟨hok2, hn2⟩ := c2
    obtain ⟨m, em, m1, m2, m3⟩ := unfold_is (n := (n2 : Int)) (by omega) (by omega)
    have wm : IntKind.i64.wrap (mag + m) = mag + m := wrap_i64 (by omega) (by omega)
    have hs : spec_UnpackCurve_l1 b (r, out, time, mag, ((k + 1 : Nat) : Int)) = some (.inl (r2, out ++ [⟨IntKind.i64.wrap (time + n1), mag + m⟩], IntKind.i64.wrap (time + n1), mag + m, (k : Int))) := by
      simp only [spec_UnpackCurve_l1, p, hr.ok, Bool.and_self, if_true, s1, s2, em, Option.bind_some, w, wm, ap, ck_true]
    by_cases c3 : (44000 : Int) < (n2 : Int)
    · have c4 : (!ok2 || decide ((44000 : Int) < (n2 : Int))) = true := by simp [c3]
      rw [if_pos c4] at i2
      obtain ⟨z2, ez2⟩ := unfold_some 0
      have hi : impl_UnpackCurve_l1 b c (u, out, time, mag, t) = some (.inl (⟨u1.rest_, true⟩, out ++ [⟨IntKind.i64.wrap (time + n1), IntKind.i64.wrap (mag + z2)⟩], IntKind.i64.wrap (time + n1), IntKind.i64.wrap (mag + z2), t + 1)) := by
        simp only [impl_UnpackCurve_l1, p2, if_true, i1, i2, unfold_same, ez2, Option.bind_some, w2, ap, ck_true]
      rw [whileE_next hs, whileE_next hi]
      obtain ⟨rf, ext, q1, q2, q3⟩ := spec_loop b k r2 (out ++ [⟨IntKind.i64.wrap (time + n1), mag + m⟩]) (IntKind.i64.wrap (time + n1)) (mag + m) (by rw [hr2.b]; exact hb) hr2.lo (by rw [hr2.b]; exact hr2.hi) (by simp; omega)
      obtain ⟨uf, cf, v1, v2, v3⟩ := impl_bad b c hc k ⟨u1.rest_, true⟩ (out ++ [⟨IntKind.i64.wrap (time + n1), IntKind.i64.wrap (mag + z2)⟩]) (IntKind.i64.wrap (time + n1)) (IntKind.i64.wrap (mag + z2)) (t + 1) rfl (by omega) (by omega) (by simp; omega)
      refine ⟨rf, uf, _, cf, q1, v1, by simp; omega, by omega, .inr ⟨v3, .inr (spoilt_good (spoilt_app (spoilt_jump ?_)))⟩⟩
      rw [← hm]
      have := m3 c3
      omega
    · have c4 : ¬ (!ok2 || decide ((44000 : Int) < (n2 : Int))) = true := by simp [c3, hok2]
      rw [if_neg c4] at i2
      have hi : impl_UnpackCurve_l1 b c (u, out, time, mag, t) = some (.inl (u2, out ++ [⟨IntKind.i64.wrap (time + n1), mag + m⟩], IntKind.i64.wrap (time + n1), mag + m, t + 1)) := by
        simp only [impl_UnpackCurve_l1, p2, if_true, i1, i2, unfold_same, em, Option.bind_some, w2, wm, ap, ck_true]
      rw [whileE_next hs, whileE_next hi]
      exact both_loop b hb c hc k r2 u2 (out ++ [⟨IntKind.i64.wrap (time + n1), mag + m⟩]) (IntKind.i64.wrap (time + n1)) (mag + m) (t + 1) hr2 (by simp; omega) (by omega) (lastMag_app _ _ _).symm (by omega) (by omega)

theorem UnpackCurve_same {b : List UInt8} (hl : b.length ≤ 1048576) : ∃ l k, l.length ≤ 2000 ∧ spec_UnpackCurve b = some (l, k) ∧ impl_UnpackCurve b = some (l, k) := by
  unfold spec_UnpackCurve impl_UnpackCurve
  obtain ⟨q, q1, q2, q3⟩ := check_same hl
  rw [q1, q2]
  simp only [Option.bind_some]
  by_cases hq : q = 0
  · obtain ⟨l3, l8⟩ := q3 hq
    subst hq
    have w : IntKind.i64.wrap ((b.length : Int) - 2) = (b.length : Int) - 2 := wrap_i64 (by omega) (by omega)
    have k1 : cutOk 0 ((b.length : Int) - 2) b.length = true := cutOk_of (by omega) (by omega) (by omega)
    have k2 : cutOk 1 ((b.length : Int) - 2) b.length = true := cutOk_of (by omega) (by omega) (by omega)
    simp only [beq_self_eq_true, Bool.not_true, Bool.false_eq_true, if_false, w, k1, k2, ck_true]
    have hbody : (cut b 0 ((b.length : Int) - 2)).length = b.length - 2 := by simp only [cut, List.length_drop, List.length_take]; omega
    have hrel : Rel (cut b 0 ((b.length : Int) - 2)) ⟨cut b 0 ((b.length : Int) - 2), 1, true⟩ ⟨cut b 1 ((b.length : Int) - 2), false⟩ := by
      refine ⟨rfl, by show (0 : Int) ≤ 1; omega, by show (1 : Int) ≤ _; rw [hbody]; omega, rfl, ?_, rfl⟩
      simp [cut]
    generalize cut b 0 ((b.length : Int) - 2) = body at hrel hbody
    generalize cut b 1 ((b.length : Int) - 2) = rest at hrel
    obtain ⟨n0, ok0, r0, u0, hr0, e0⟩ := num_is (by omega) hrel
    obtain ⟨s0, i0⟩ := e0 100
    rw [s0, i0]
    simp only [Option.bind_some]
    by_cases c0 : (!ok0 || decide ((100 : Int) < (n0 : Int))) = true
    · rw [if_pos c0, if_pos c0]
      simp only
      rw [whileE_done (r := (⟨body, 1, false⟩, [])) (by simp [spec_UnpackCurve_l1]), whileE_done (r := (⟨rest, true⟩, [])) (by simp [impl_UnpackCurve_l1])]
      have e2 : ∃ l kk, impl_PackCurve [] = some (l, kk) := by
        have h := Curve_is (c := []) (by simp)
        rw [if_pos (by rfl)] at h
        obtain ⟨l, _, _, h3⟩ := h
        exact ⟨l, 0, h3⟩
      obtain ⟨l, kk, e2⟩ := e2
      simp only [Option.bind_some, e2, Bool.not_false, Bool.not_true, Bool.false_or, Bool.true_or, Bool.or_true, ck_true, if_true]
      exact ⟨[], 8, by simp, rfl, rfl⟩
    · rw [if_neg c0, if_neg c0]
      simp only [Bool.or_eq_true, Bool.not_eq_true', decide_eq_true_eq, not_or, Bool.not_eq_false] at c0
      simp only
      obtain ⟨rf, uf, oS, oI, v1, v2, v3, v4, v5⟩ := both_loop b (by omega) (n0 : Int) (by omega) n0 r0 u0 [] 0 0 0 hr0 rfl (by omega) rfl (by omega) (by omega)
      rw [v1, v2]
      simp only [Option.bind_some]
      have hcu := Curve_is (c := oI) (by omega)
      have hk := l08Ok_is (c := oS) (by omega)
      rcases v5 with ⟨o1, o2, rfl⟩ | ⟨o1, o2⟩
      · rw [hk]
        cases hg : (goodP oS && decide (oS.length ≤ 100))
        · rw [hg, if_neg Bool.false_ne_true] at hcu
          rw [hcu]
          simp only [o1, o2, Option.bind_some, Bool.not_true, Bool.not_false, Bool.or_true, Bool.true_or, Bool.false_or, Option.isSome_some, Option.getD_some, ck_true, bytes_Equal, if_true]
          exact ⟨[], 8, by simp, rfl, by simp⟩
        · rw [hg, if_pos rfl] at hcu
          obtain ⟨cu, _, c1, c2⟩ := hcu
          rw [c2, c1]
          simp only [o1, o2, Option.bind_some, Option.isSome_some, Option.getD_some, Bool.or_true, ck_true, Bool.not_true, Bool.false_or, beq_self_eq_true, bytes_Equal]
          cases (cu == b)
          · exact ⟨[], 8, by simp, rfl, rfl⟩
          · exact ⟨oS, 0, v3, rfl, rfl⟩
      · have e2 : ∃ l kk, impl_PackCurve oI = some (l, kk) := by
          split at hcu
          · obtain ⟨l, _, _, h3⟩ := hcu; exact ⟨l, 0, h3⟩
          · exact ⟨_, _, hcu⟩
        obtain ⟨l, kk, e2⟩ := e2
        rw [e2]
        simp only [Option.bind_some]
        simp only [o1, Bool.true_or, Bool.not_true, Bool.false_or, bytes_Equal, Option.isSome_some, Bool.or_true, ck_true, if_true]
        refine ⟨[], 8, by simp, ?_, rfl⟩
        rcases o2 with o2 | o2
        · simp [o2, ck_true]
        · rw [hk, o2]
          simp [ck_true]
  · have h : (!(q == 0)) = true := by simpa using hq
    simp only [h, if_true]
    exact ⟨[], q, by simp, rfl, rfl⟩

end Go.Proofs.Ytgbibhhblimfiaa
