/- What typed forms say: what is packed is unpacked again. No condition. -/
import Derived.Test.YtpjpfdoaemoddaaGreatHPC
import Derived.Test.YtpjpfdoaemoddaaGreatHPA
namespace Go.Proofs.YtpjpfdoaemoddaaGreat
open Go Go.RowKit
set_option linter.unusedSimpArgs false
set_option linter.unusedVariables false

/-! ### Numbers ahead of other bytes -/

theorem numP_len : ∀ (k n : Nat), n < 128 ^ (k + 1) → (numP n).length ≤ k + 1
  | 0, n, h => by rw [numP_lo (by simpa using h)]; simp
  | k + 1, n, h => by
    by_cases c : n < 128
    · rw [numP_lo c]; simp
    · rw [numP_hi c, List.length_cons]
      have := numP_len k (n / 128) (by rw [Nat.pow_succ] at h; omega)
      omega

theorem read_app (suf : List UInt8) : ∀ (k n : Nat) (b pre : List UInt8) (acc : Nat), n < k → b = pre ++ (numP n ++ suf) → acc < 2 ^ (7 * pre.length) → (pre.length = 0 ∨ 0 < n) → n * 2 ^ (7 * pre.length) < 2 ^ 63 →
    whileE (spec_l25Read_l1 b) ((acc : Int), (pre.length : Int)) = some (.inr (((acc + n * 2 ^ (7 * pre.length) : Nat) : Int), ((pre.length + (numP n).length : Nat) : Int), true))
  | 0, n, _, _, _, h, _, _, _, _ => absurd h (by omega)
  | k + 1, n, b, pre, acc, h, hb, ha, h0, hn => by
    have h9 : pre.length < 9 := by
      rcases h0 with h0 | h0
      · omega
      · have : 1 * 2 ^ (7 * pre.length) ≤ n * 2 ^ (7 * pre.length) := Nat.mul_le_mul_right _ h0
        have h3 : 2 ^ (7 * pre.length) < 2 ^ 63 := by omega
        have := (Nat.pow_lt_pow_iff_right (show 1 < 2 by decide)).1 h3
        omega
    by_cases hlo : n < 128
    · rw [numP_lo hlo] at hb
      have hl : pre.length < b.length := by rw [hb]; simp
      have hg : b.getD pre.length default = UInt8.ofNat n := by rw [hb]; simp
      have ht : (UInt8.ofNat n).toNat = n := by simp; omega
      obtain ⟨e, _, _⟩ := rd_step hg h9 (by omega) ha
      have c1 : UInt8.ofNat n < 128 := by rw [UInt8.lt_iff_toNat_lt, ht]; exact hlo
      have c2 : ¬ (0 < pre.length ∧ UInt8.ofNat n = 0) := by
        rintro ⟨a, c⟩
        have : (UInt8.ofNat n).toNat = 0 := by rw [c]; rfl
        omega
      rw [if_pos c1, if_neg c2, ht, Nat.mod_eq_of_lt hlo] at e
      rw [whileE_done e, numP_lo hlo]
      rfl
    · rw [numP_hi hlo] at hb
      have hl : pre.length < b.length := by rw [hb]; simp
      have hg : b.getD pre.length default = UInt8.ofNat (n % 128 + 128) := by rw [hb]; simp
      have ht : (UInt8.ofNat (n % 128 + 128)).toNat = n % 128 + 128 := by simp; omega
      obtain ⟨e, _, e3⟩ := rd_step hg h9 hl ha
      have c1 : ¬ UInt8.ofNat (n % 128 + 128) < 128 := by rw [UInt8.lt_iff_toNat_lt, ht]; show ¬ n % 128 + 128 < 128; omega
      have hm : (n % 128 + 128) % 128 = n % 128 := by omega
      rw [if_neg c1, ht, hm] at e
      rw [ht, hm] at e3
      have hp : 2 ^ (7 * (pre.length + 1)) = 128 * 2 ^ (7 * pre.length) := (rd_pow h9).2
      have hq : n / 128 * 128 + n % 128 = n := by omega
      have hsum : n / 128 * (128 * 2 ^ (7 * pre.length)) + n % 128 * 2 ^ (7 * pre.length) = n * 2 ^ (7 * pre.length) := by
        rw [← Nat.mul_assoc, ← Nat.add_mul, hq]
      have := read_app suf k (n / 128) b (pre ++ [UInt8.ofNat (n % 128 + 128)]) (acc + n % 128 * 2 ^ (7 * pre.length)) (by omega) (by rw [hb, List.append_assoc]; rfl)
        (by rw [List.length_append, List.length_singleton]; exact e3) (.inr (by omega)) (by rw [List.length_append, List.length_singleton, hp]; omega)
      rw [List.length_append, List.length_singleton, hp] at this
      rw [whileE_next e, this, numP_hi hlo, List.length_cons]
      have hs : acc + n % 128 * 2 ^ (7 * pre.length) + n / 128 * (128 * 2 ^ (7 * pre.length)) = acc + n * 2 ^ (7 * pre.length) := by omega
      have hs2 : pre.length + 1 + (numP (n / 128)).length = pre.length + ((numP (n / 128)).length + 1) := by omega
      rw [hs, hs2]

theorem ReadNumber_app {n : Nat} (hn : n < 2 ^ 63) (suf : List UInt8) : impl_ReadNumber (numP n ++ suf) = some ((n : Int), ((numP n).length : Int), true) := by
  obtain ⟨m, k, ok, e1, e2, _⟩ := read_is (numP n ++ suf)
  have h := read_app suf (n + 1) n (numP n ++ suf) [] 0 (by omega) rfl (by simp) (.inl rfl) (by simpa using hn)
  simp only [List.length_nil, Nat.mul_zero, Nat.pow_zero, Nat.mul_one, Nat.zero_add, Int.ofNat_zero] at h
  have h2 : whileE (spec_l25Read_l1 (numP n ++ suf)) (0, 0) = some (.inr (((n : Nat) : Int), ((numP n).length : Int), true)) := h
  rw [e2, ← e1]
  unfold spec_l25Read
  rw [h2]
  rfl

theorem cut_app (a b : List UInt8) : cut (a ++ b) (a.length : Int) ((a ++ b).length : Int) = b := by
  unfold cut; rw [Int.toNat_natCast, Int.toNat_natCast, List.take_length, List.drop_left]
theorem cut_app0 (a b : List UInt8) : cut (a ++ b) 0 (a.length : Int) = a := by simp [cut]

theorem unum {n : Nat} {most : Int} (h : (n : Int) ≤ most) (hn : n < 2 ^ 63) (suf : List UInt8) : impl_unpacker_number ⟨numP n ++ suf, false⟩ most = some ((n : Int), ⟨suf, false⟩) := by
  unfold impl_unpacker_number
  simp only [ReadNumber_app hn suf, Option.bind_some]
  have e : ¬ most < (n : Int) := by omega
  simp only [e, decide_false, Bool.not_true, Bool.or_self, Bool.false_eq_true, if_false]
  rw [cutOk_of (by omega) (by simp; omega) (by omega), ck_true, cut_app]

theorem appNum {n : Nat} (hn : n ≤ 9223372036854775807) {b : List UInt8} (hb : b.length ≤ 1099511627776) : impl_appendNumber b (n : Int) = some (b ++ numP n) := by
  obtain ⟨l, _, e1, e2⟩ := number_is (n := (n : Int)) (by omega) (by omega)
  rw [number_numP hn] at e1
  cases e1
  exact e2 b hb

/-! ### Names -/

def namesQ : List Bs → List UInt8
  | [] => []
  | x :: r => numP x.length ++ (x ++ namesQ r)

theorem namesQ_snoc (l : List Bs) (x : Bs) : namesQ (l ++ [x]) = namesQ l ++ (numP x.length ++ x) := by
  induction l with
  | nil => simp [namesQ]
  | cons y r ih => simp only [List.cons_append, namesQ, ih, List.append_assoc]

theorem namesQ_len {l : List Bs} (h : ∀ x ∈ l, x.length ≤ 12) : (namesQ l).length ≤ 13 * l.length := by
  induction l with
  | nil => simp [namesQ]
  | cons y r ih =>
    have h1 := h y (by simp)
    have h2 := ih fun x hx => h x (by simp [hx])
    have h3 := numP_len 0 y.length (by omega)
    simp only [namesQ, List.length_append, List.length_cons]
    omega

theorem appNames_is {b : List UInt8} {ns : List Bs} (hn : ns.length ≤ 100) (hs : ∀ x ∈ ns, x.length ≤ 12) (hb : b.length ≤ 1000000) : impl_appendNames b ns = some (b ++ (numP ns.length ++ namesQ ns)) := by
  unfold impl_appendNames impl_count_string
  have hl0 := numP_len 0 ns.length (by omega)
  rw [Option.bind_some, appNum (by omega) (by omega), Option.bind_some]
  have := while_up (step := impl_appendNames_l1 ns (ns.length : Int)) (fun i => (b ++ numP ns.length) ++ namesQ (ns.take i)) ns.length (r := (b ++ numP ns.length) ++ namesQ ns) (fun i hi => by
    have hx := hs _ (getD_mem hi default)
    have hq := namesQ_len (l := ns.take i) fun x hx => hs x (List.mem_of_mem_take hx)
    have hti : (ns.take i).length ≤ 100 := by rw [List.length_take]; omega
    have h3 := numP_len 0 (ns.getD i default).length (by omega)
    simp only [impl_appendNames_l1, Int.ofNat_lt, hi, decide_true, if_true, ixOk_nat, ck_true, Int.toNat_natCast, wrap_nat1 (show i < 9223372036854775807 by omega)]
    rw [appNum (by omega) (by simp only [List.length_append]; omega), Option.bind_some, appOk_of (by simp only [List.length_append]; omega), ck_true, List.take_succ_eq_append_getElem hi, namesQ_snoc, getD_lt hi]
    simp only [List.append_assoc]) (by rw [List.take_length]; simp [impl_appendNames_l1])
  simp only [List.take_zero, namesQ, List.append_nil] at this
  rw [this, List.append_assoc]
  rfl

theorem unames_loop (suf : List UInt8) (c : Int) (hc : c ≤ 1000) : ∀ (r out : List Bs) (t : Int), (∀ x ∈ r, x.length ≤ 12) → t + r.length = c → 0 ≤ t → out.length ≤ 1000 →
    r.length + out.length ≤ 1000 → (namesQ r).length + suf.length ≤ 1000000 → whileE (impl_unpacker_names_l1 c) (⟨namesQ r ++ suf, false⟩, out, t) = some (.inl (⟨suf, false⟩, out ++ r))
  | [], out, t, _, h, _, _, _, _ => by
    have : ¬ t < c := by simp at h; omega
    refine whileE_done ?_
    simp [impl_unpacker_names_l1, this, namesQ]
  | x :: r, out, t, hs, h, h0, ho, hr, hq => by
    have hx := hs x (by simp)
    simp only [List.length_cons] at h hr
    have hlt : t < c := by omega
    simp only [namesQ, List.length_append] at hq
    have ih := unames_loop suf c hc r (out ++ [x]) (t + 1) (fun y hy => hs y (by simp [hy])) (by omega) (by omega) (by simp; omega) (by simp; omega) (by omega)
    rw [List.append_assoc] at ih
    rw [whileE_next (s' := (⟨namesQ r ++ suf, false⟩, out ++ [x], t + 1)) (by
      have e1 : namesQ (x :: r) ++ suf = numP x.length ++ (x ++ (namesQ r ++ suf)) := by simp only [namesQ, List.append_assoc]
      have e2 : ¬ ((x ++ (namesQ r ++ suf)).length : Int) < (x.length : Int) := by simp; omega
      simp only [impl_unpacker_names_l1, hlt, decide_true, if_true, e1, unum (show ((x.length : Nat) : Int) ≤ 12 by omega) (by omega), Option.bind_some, e2, decide_false, Bool.or_self, Bool.false_eq_true, if_false]
      rw [cutOk_of (by omega) (by omega) (by simp; omega), ck_true, appOk_of (by simp; omega), ck_true, cutOk_of (by omega) (by simp; omega) (by omega), ck_true, cut_app0, cut_app, wrap_i64 (by omega) (by omega)])]
    exact ih

theorem unames_is {ns : List Bs} (hn : ns.length ≤ 100) (hs : ∀ x ∈ ns, x.length ≤ 12) (suf : List UInt8) (hsuf : suf.length ≤ 100000) : impl_unpacker_names ⟨numP ns.length ++ (namesQ ns ++ suf), false⟩ = some (ns, ⟨suf, false⟩) := by
  unfold impl_unpacker_names
  have hq := namesQ_len hs
  rw [unum (by omega) (by omega), Option.bind_some, unames_loop suf (ns.length : Int) (by omega) ns [] 0 hs (by omega) (by omega) (by simp) (by simp; omega) (by omega)]
  rfl

/-! ### Folded numbers -/

theorem unfold_foldN {n : Int} (h0 : -100000 ≤ n) (h1 : n ≤ 100000) : impl_unfold (foldN n) = some n := by
  unfold impl_unfold foldN
  rw [nz_of (by decide), ck_true]
  by_cases c : n < 0
  · rw [if_pos c]
    have e : (-2 * n - 1).tmod 2 = 1 := by rw [Int.tmod_eq_emod_of_nonneg (by omega)]; omega
    have e2 : (-(-2 * n - 1 + 1)).tdiv 2 = n := by
      rw [show -(-2 * n - 1 + 1) = n * 2 by omega]
      exact Int.mul_tdiv_cancel _ (by decide)
    rw [e, wrap_i64 (n := -2 * n - 1 + 1) (by omega) (by omega), show (0 : Int) - (-2 * n - 1 + 1) = -(-2 * n - 1 + 1) by omega, wrap_i64 (n := -(-2 * n - 1 + 1)) (by omega) (by omega), e2, wrap_i64 (by omega) (by omega)]
    rfl
  · rw [if_neg c]
    have e : (2 * n).tmod 2 = 0 := by rw [Int.tmod_eq_emod_of_nonneg (by omega)]; omega
    have e2 : (2 * n).tdiv 2 = n := by rw [Int.tdiv_eq_ediv_of_nonneg (by omega)]; omega
    have e3 : ((0 : Int) == 1) = false := rfl
    rw [e, e2, e3]
    simp only [Bool.false_eq_true, if_false]
    rw [wrap_i64 (by omega) (by omega)]

/-! ### Sealed bytes -/

theorem toU8_val {n : Int} (h0 : 0 ≤ n) (h1 : n ≤ 255) : ((toU8 (IntKind.u8.wrap n)).toNat : Int) = n := by
  rw [wrap_u8 h0 (by omega)]
  unfold toU8
  rw [UInt8.toNat_ofNat']
  omega

/-- What is sealed passes the look. -/
theorem seal_is {b : List UInt8} (h1 : 1 ≤ b.length) (h2 : b.length ≤ 7000) : ∃ p, impl_sealed b = some p ∧ p.length = b.length + 2 ∧ p.getD 0 default = b.getD 0 default ∧ cut p 1 (IntKind.i64.wrap ((p.length : Int) - 2)) = b.drop 1 ∧
    cutOk 1 (IntKind.i64.wrap ((p.length : Int) - 2)) p.length = true ∧
    ∀ (f : UInt8 → Option Bool), f (b.getD 0 default) = some true → (ck (!(!((decide ((p.length : Int) < 3)) || (decide (8000 < (p.length : Int))))) || ixOk 0 p.length) <|
      ck (!(!((decide ((p.length : Int) < 3)) || (decide (8000 < (p.length : Int))))) || (f (p.getD 0 default)).isSome) <|
      if (((decide ((p.length : Int) < 3)) || (decide (8000 < (p.length : Int)))) || (!((f (p.getD 0 default)).getD default))) = true then
        some (8 : Int)
      else
        ck (cutOk 0 (IntKind.i64.wrap ((p.length : Int) - 2)) p.length) <|
        (impl_SumOfBytes (cut p 0 (IntKind.i64.wrap ((p.length : Int) - 2)))).bind fun y_5 =>
        ck (ixOk (IntKind.i64.wrap ((p.length : Int) - 2)) p.length) <|
        ck (ixOk (IntKind.i64.wrap ((IntKind.i64.wrap ((p.length : Int) - 2)) + 1)) p.length) <|
        if (!(y_5 == (IntKind.i64.wrap ((IntKind.i64.wrap (((p.getD (IntKind.i64.wrap ((p.length : Int) - 2)).toNat default).toNat : Int) * 256)) + ((p.getD (IntKind.i64.wrap ((IntKind.i64.wrap ((p.length : Int) - 2)) + 1)).toNat default).toNat : Int))))) = true then
          some 9
        else
          some 0) = some 0 := by
  obtain ⟨s, _, s0, s1, e1⟩ := sum_is (b := b) (by omega)
  have t1 : s.tdiv 256 = s / 256 := Int.tdiv_eq_ediv_of_nonneg s0
  have t2 : s.tmod 256 = s % 256 := Int.tmod_eq_emod_of_nonneg s0
  have v1 := toU8_val (n := s / 256) (by omega) (by omega)
  have v2 := toU8_val (n := s % 256) (by omega) (by omega)
  refine ⟨b ++ [toU8 (IntKind.u8.wrap (s / 256)), toU8 (IntKind.u8.wrap (s % 256))], ?_, by simp, ?_, ?_, ?_, ?_⟩
  · unfold impl_sealed
    rw [e1, Option.bind_some, nz_of (by decide), ck_true, t1, t2, wrap_i64 (n := s / 256) (by omega) (by omega), appOk_of (by simp; omega), ck_true]
  · rw [List.getD_eq_getElem?_getD, List.getD_eq_getElem?_getD, List.getElem?_append_left (by omega)]
  · have hw : IntKind.i64.wrap (((b ++ [toU8 (IntKind.u8.wrap (s / 256)), toU8 (IntKind.u8.wrap (s % 256))]).length : Int) - 2) = (b.length : Int) := by
      rw [List.length_append]; simp only [List.length_cons, List.length_nil]
      rw [wrap_i64 (by omega) (by omega)]; omega
    rw [hw]
    simp [cut]
  · have hw : IntKind.i64.wrap (((b ++ [toU8 (IntKind.u8.wrap (s / 256)), toU8 (IntKind.u8.wrap (s % 256))]).length : Int) - 2) = (b.length : Int) := by
      rw [List.length_append]; simp only [List.length_cons, List.length_nil]
      rw [wrap_i64 (by omega) (by omega)]; omega
    rw [hw]
    exact cutOk_of (by omega) (by omega) (by simp; omega)
  · intro f hf
    have hg0 : (b ++ [toU8 (IntKind.u8.wrap (s / 256)), toU8 (IntKind.u8.wrap (s % 256))]).getD 0 default = b.getD 0 default := by
      rw [List.getD_eq_getElem?_getD, List.getD_eq_getElem?_getD, List.getElem?_append_left (by omega)]
    have hg1 : (b ++ [toU8 (IntKind.u8.wrap (s / 256)), toU8 (IntKind.u8.wrap (s % 256))]).getD b.length default = toU8 (IntKind.u8.wrap (s / 256)) := by simp
    have hg2 : (b ++ [toU8 (IntKind.u8.wrap (s / 256)), toU8 (IntKind.u8.wrap (s % 256))]).getD (b.length + 1) default = toU8 (IntKind.u8.wrap (s % 256)) := by simp
    have hc : cut (b ++ [toU8 (IntKind.u8.wrap (s / 256)), toU8 (IntKind.u8.wrap (s % 256))]) 0 (b.length : Int) = b := cut_app0 _ _
    have hl : (b ++ [toU8 (IntKind.u8.wrap (s / 256)), toU8 (IntKind.u8.wrap (s % 256))]).length = b.length + 2 := by simp
    generalize b ++ [toU8 (IntKind.u8.wrap (s / 256)), toU8 (IntKind.u8.wrap (s % 256))] = p at *
    have hw : IntKind.i64.wrap ((p.length : Int) - 2) = (b.length : Int) := by rw [hl, wrap_i64 (by omega) (by omega)]; omega
    have hw2 : IntKind.i64.wrap ((b.length : Int) + 1) = ((b.length + 1 : Nat) : Int) := by rw [wrap_i64 (by omega) (by omega)]; omega
    have d1 : decide ((p.length : Int) < 3) = false := by simp; omega
    have d2 : decide (8000 < (p.length : Int)) = false := by simp; omega
    rw [hw, hw2, hg0, hf, d1, d2, ixOk_of (i := 0) (by omega) (by omega), cutOk_of (b := (b.length : Int)) (by omega) (by omega) (by omega), hc, e1, ixOk_of (i := (b.length : Int)) (by omega) (by omega), ixOk_of (i := ((b.length + 1 : Nat) : Int)) (by omega) (by omega), Int.toNat_natCast, Int.toNat_natCast, hg1, hg2, v1, v2,
      wrap_i64 (n := s / 256 * 256) (by omega) (by omega), wrap_i64 (n := s / 256 * 256 + s % 256) (by omega) (by omega)]
    have : s / 256 * 256 + s % 256 = s := by omega
    simp [ck_true, this]

/-! ### Estimates -/

theorem oneE_names {e : Estimate} (h : oneE e = true) : e.Star.length ≤ 12 ∧ e.Observer.length ≤ 12 := by
  obtain ⟨_, _, _, _, a, b⟩ := oneE_at h
  exact ⟨a, b⟩

theorem pack_back {l : List Estimate} (hg : goodE l = true) (hl : l.length ≤ 100) {ss os : List Bs} (h1 : ss.length ≤ 100) (h2 : os.length ≤ 100) (m1 : ∀ x ∈ starL l, x ∈ ss) (m2 : ∀ x ∈ obsL l, x ∈ os) :
    ∀ (d i : Nat) (time mag : Int), i + d = l.length → time = (if i = 0 then 0 else (l.getD (i - 1) default).Time) → mag = (if i = 0 then 0 else (l.getD (i - 1) default).Mag) →
    ∃ q : List UInt8, q.length ≤ 10 * d ∧ (∀ b : List UInt8, b.length + q.length ≤ 100000 → whileE (impl_PackEstimates_l1 ss os l (l.length : Int)) (b, time, mag, (i : Int)) = some (b ++ q)) ∧
      ∀ (B suf : List UInt8) (out : List Estimate), out.length = i → whileE (impl_UnpackEstimates_l1 B ss os (l.length : Int)) (⟨q ++ suf, false⟩, out, time, mag, (i : Int)) = some (.inl (⟨suf, false⟩, out ++ l.drop i))
  | 0, i, time, mag, hd, _, _ => by
    have hlt : ¬ i < l.length := by omega
    have hi : i = l.length := by omega
    refine ⟨[], by simp, fun b _ => ?_, fun B suf out _ => ?_⟩
    · rw [List.append_nil]; exact whileE_done (by simp [impl_PackEstimates_l1, hlt])
    · refine whileE_done ?_
      simp [impl_UnpackEstimates_l1, hlt]
      omega
  | d + 1, i, time, mag, hd, ht, hm => by
    have hlt : i < l.length := by omega
    obtain ⟨q1, q2⟩ := goodE_at hg hlt
    obtain ⟨g1, g2, g3, g4, _, _⟩ := oneE_at q1
    have time0 : 0 ≤ (l.getD i default).Time - time ∧ (l.getD i default).Time - time ≤ 10000000 ∧ 0 ≤ time := by
      rw [ht]
      split
      · omega
      · obtain ⟨r1, r2, _⟩ := oneE_at (goodE_at hg (show i - 1 < l.length by omega)).1
        have := beforeE_time (q2 (by omega)); omega
    have mag0 : -22000 ≤ (l.getD i default).Mag - mag ∧ (l.getD i default).Mag - mag ≤ 22000 ∧ -2000 ≤ mag ∧ mag ≤ 20000 := by
      rw [hm]
      split
      · omega
      · obtain ⟨_, _, r3, r4, _⟩ := oneE_at (goodE_at hg (show i - 1 < l.length by omega)).1
        omega
    obtain ⟨k1, kl1, _, kb1, kg1⟩ := place_is (by omega) (m1 _ (List.mem_map_of_mem (getD_mem hlt default)))
    obtain ⟨k2, kl2, _, kb2, kg2⟩ := place_is (by omega) (m2 _ (List.mem_map_of_mem (getD_mem hlt default)))
    obtain ⟨_, d2⟩ := fold_is (n := (l.getD i default).Mag - mag) (by omega) (by omega)
    have hfu := unfold_foldN (n := (l.getD i default).Mag - mag) (by omega) (by omega)
    have hfn : 0 ≤ foldN ((l.getD i default).Mag - mag) ∧ foldN ((l.getD i default).Mag - mag) ≤ 44000 := by unfold foldN; split <;> omega
    obtain ⟨f, hf⟩ := Int.eq_ofNat_of_zero_le hfn.1
    obtain ⟨t, htt⟩ := Int.eq_ofNat_of_zero_le time0.1
    rw [hf] at d2 hfu hfn
    have w1 : IntKind.i64.wrap ((l.getD i default).Time - time) = (t : Int) := by rw [htt]; exact wrap_i64 (by omega) (by omega)
    have w2 : IntKind.i64.wrap ((l.getD i default).Mag - mag) = (l.getD i default).Mag - mag := wrap_i64 (by omega) (by omega)
    have w3 : IntKind.i64.wrap (2 * (k2 : Int)) = 2 * (k2 : Int) := wrap_i64 (by omega) (by omega)
    have w4 : IntKind.i64.wrap (2 * (k2 : Int) + 1) = 2 * (k2 : Int) + 1 := wrap_i64 (by omega) (by omega)
    obtain ⟨q, hq, p1, p2⟩ := pack_back hg hl h1 h2 m1 m2 d (i + 1) (l.getD i default).Time (l.getD i default).Mag (by omega) (by simp) (by simp)
    -- who
    obtain ⟨wh, hwh, hwi⟩ : ∃ wh : Nat, wh = 2 * k2 + (if (l.getD i default).Fainter = true then 1 else 0) ∧ wh ≤ 2 * os.length - 1 := ⟨_, rfl, by split <;> omega⟩
    have hdrop : l.drop i = l.getD i default :: l.drop (i + 1) := by rw [List.drop_eq_getElem_cons hlt, getD_lt hlt]
    have nt := numP_len 3 t (by omega)
    have n1 := numP_len 0 k1 (by omega)
    have nw := numP_len 1 wh (by split at hwh <;> omega)
    have nf := numP_len 2 f (by omega)
    have A : ∀ (n : Nat), n ≤ 10000000 → ∀ b : List UInt8, b.length ≤ 1099511627776 → impl_appendNumber b (n : Int) = some (b ++ numP n) := fun n hn b hb => appNum (by omega) hb
    have hwq : ((if (l.getD i default).Fainter = true then 2 * (k2 : Int) + 1 else 2 * (k2 : Int)) : Int) = (wh : Int) := by rw [hwh]; split <;> omega
    refine ⟨numP t ++ (numP k1 ++ (numP wh ++ (numP f ++ q))), by simp only [List.length_append]; omega, fun b hb => ?_, fun B suf out ho => ?_⟩
    · simp only [List.length_append] at hb
      have f4 := fun (a3 : Int) (ha : a3 = (wh : Int)) => four_l2 (ss := ss) (os := os) (e := l.getD i default) (t30 := l) (t31 := (l.length : Int)) (t32 := (i : Int)) (a1 := (t : Int)) (a2 := (k1 : Int)) (a3 := a3) (a4 := (f : Int)) (p1 := numP t) (p2 := numP k1) (p3 := numP wh) (p4 := numP f) (b := b) (by omega) (by omega) (by omega) (by omega)
        (A t (by omega)) (A k1 (by omega)) (by rw [ha]; exact A wh (by split at hwh <;> omega)) (A f (by omega))
      have hx := p1 (b ++ numP t ++ numP k1 ++ numP wh ++ numP f) (by simp only [List.length_append]; omega)
      have hcast : ((i + 1 : Nat) : Int) = (i : Int) + 1 := by omega
      cases hF : (l.getD i default).Fainter
      · rw [hF] at hwq
        simp only [Bool.false_eq_true, if_false] at hwq
        rw [whileE_next (s' := (b ++ numP t ++ numP k1 ++ numP wh ++ numP f, (l.getD i default).Time, (l.getD i default).Mag, ((i + 1 : Nat) : Int))) (by
          simp only [impl_PackEstimates_l1, Int.ofNat_lt, hlt, decide_true, if_true, ixOk_nat, ck_true, Int.toNat_natCast, wrap_nat1 (show i < 9223372036854775807 by omega), w1, w2, w3, d2, kb1, kb2, hF, Option.bind_some, Bool.false_eq_true, if_false]
          rw [(f4 _ hwq).2]
          rfl), hx]
        simp only [List.append_assoc]
      · rw [hF] at hwq
        simp only [if_true] at hwq
        rw [whileE_next (s' := (b ++ numP t ++ numP k1 ++ numP wh ++ numP f, (l.getD i default).Time, (l.getD i default).Mag, ((i + 1 : Nat) : Int))) (by
          simp only [impl_PackEstimates_l1, Int.ofNat_lt, hlt, decide_true, if_true, ixOk_nat, ck_true, Int.toNat_natCast, wrap_nat1 (show i < 9223372036854775807 by omega), w1, w2, w3, w4, d2, kb1, kb2, hF, Option.bind_some]
          rw [(f4 _ hwq).1]
          rfl), hx]
        simp only [List.append_assoc]
    · have hx := p2 B suf (out ++ [l.getD i default]) (by simp [ho])
      have u1 := unum (n := t) (most := 10000000) (by omega) (by omega) (numP k1 ++ (numP wh ++ (numP f ++ (q ++ suf))))
      have u2 := unum (n := k1) (most := (ss.length : Int) - 1) (by omega) (by omega) (numP wh ++ (numP f ++ (q ++ suf)))
      have u3 := unum (n := wh) (most := 2 * (os.length : Int) - 1) (by omega) (by omega) (numP f ++ (q ++ suf))
      have u4 := unum (n := f) (most := 44000) (by omega) (by omega) (q ++ suf)
      have x1 : IntKind.i64.wrap ((ss.length : Int) - 1) = (ss.length : Int) - 1 := wrap_i64 (by omega) (by omega)
      have x2 : IntKind.i64.wrap (2 * (os.length : Int)) = 2 * (os.length : Int) := wrap_i64 (by omega) (by omega)
      have x3 : IntKind.i64.wrap (2 * (os.length : Int) - 1) = 2 * (os.length : Int) - 1 := wrap_i64 (by omega) (by omega)
      have y1 : IntKind.i64.wrap (time + (t : Int)) = (l.getD i default).Time := by rw [wrap_i64 (by omega) (by omega)]; omega
      have y2 : IntKind.i64.wrap (mag + ((l.getD i default).Mag - mag)) = (l.getD i default).Mag := by rw [wrap_i64 (by omega) (by omega)]; omega
      have y3 : ((wh : Int)).tdiv 2 = (k2 : Int) := by rw [Int.tdiv_eq_ediv_of_nonneg (by omega), hwh]; split <;> omega
      have y4 : (((wh : Int)).tmod 2 == 1) = (l.getD i default).Fainter := by
        rw [Int.tmod_eq_emod_of_nonneg (by omega), hwh]
        cases (l.getD i default).Fainter
        · first | (simp; done) | (simp; omega)
        · first | (simp; done) | (simp; omega)
      have y5 : IntKind.i64.wrap (k2 : Int) = (k2 : Int) := wrap_i64 (by omega) (by omega)
      have e1 : (numP t ++ (numP k1 ++ (numP wh ++ (numP f ++ q)))) ++ suf = numP t ++ (numP k1 ++ (numP wh ++ (numP f ++ (q ++ suf)))) := by simp only [List.append_assoc]
      have hme : Estimate.mk (l.getD i default).Time (l.getD i default).Star (l.getD i default).Observer (l.getD i default).Mag (l.getD i default).Fainter = l.getD i default := rfl
      rw [whileE_next (s' := (⟨q ++ suf, false⟩, out ++ [l.getD i default], (l.getD i default).Time, (l.getD i default).Mag, ((i + 1 : Nat) : Int))) (by
        simp only [impl_UnpackEstimates_l1, Int.ofNat_lt, hlt, decide_true, if_true, e1, u1, u2, u3, u4, impl_count_string, x1, x2, x3, hfu, Option.bind_some, Bool.false_eq_true, if_false, y1, y2, y3, y4, y5, nz_of (show (2 : Int) ≠ 0 by decide), ck_true, Int.toNat_natCast, wrap_nat1 (show i < 9223372036854775807 by omega), kg1, kg2, hme]
        rw [ixOk_of (by omega) (by omega), ck_true, ixOk_of (by omega) (by omega), ck_true, appOk_of (by simp; omega), ck_true]), hx, hdrop]
      simp

theorem Unpack_back {l : List Estimate} {p : List UInt8} (hl : l.length ≤ 1048576) (h : impl_PackEstimates l = some (p, 0)) : impl_UnpackEstimates p = some (l, 0) := by
  have hP := Pack_is hl
  cases hgc : (goodE l && decide (l.length ≤ 100))
  · rw [hgc] at hP
    simp only [Bool.false_eq_true, if_false] at hP
    rw [hP] at h; cases h
  · clear hP
    simp only [Bool.and_eq_true, decide_eq_true_eq] at hgc
    obtain ⟨hg, hc⟩ := hgc
    obtain ⟨ss, _, a2, _, a4, a5⟩ := star_names (l := l) (by omega)
    obtain ⟨os, _, b2, _, b4, b5⟩ := obs_names (l := l) (by omega)
    have ls : ∀ x ∈ ss, x.length ≤ 12 := fun x hx => by
      obtain ⟨e, he, rfl⟩ := List.mem_map.1 ((a5 x).1 hx)
      obtain ⟨i, hi, rfl⟩ := List.getElem_of_mem he
      have := (oneE_names (goodE_at hg hi).1).1
      rw [getD_lt hi] at this; exact this
    have lo : ∀ x ∈ os, x.length ≤ 12 := fun x hx => by
      obtain ⟨e, he, rfl⟩ := List.mem_map.1 ((b5 x).1 hx)
      obtain ⟨i, hi, rfl⟩ := List.getElem_of_mem he
      have := (oneE_names (goodE_at hg hi).1).2
      rw [getD_lt hi] at this; exact this
    have q1 := namesQ_len ls
    have q2 := namesQ_len lo
    have z1 := numP_len 0 ss.length (by omega)
    have z2 := numP_len 0 os.length (by omega)
    have z3 := numP_len 0 l.length (by omega)
    obtain ⟨q, hq, p1, p2⟩ := pack_back hg hc (ss := ss) (os := os) (by omega) (by omega) (fun x hx => (a5 x).2 hx) (fun x hx => (b5 x).2 hx) l.length 0 0 0 (by omega) rfl rfl
    have hbody : ∃ body : List UInt8, body = (69 : UInt8) :: (numP ss.length ++ (namesQ ss ++ (numP os.length ++ (namesQ os ++ (numP l.length ++ q))))) := ⟨_, rfl⟩
    obtain ⟨body, hbody⟩ := hbody
    have hbl : body.length ≤ 5000 := by rw [hbody]; simp only [List.length_cons, List.length_append]; omega
    obtain ⟨p', s1, s2, s3, s4, s5, s6⟩ := seal_is (b := body) (by rw [hbody]; simp) (by omega)
    have h' : impl_PackEstimates l = some (p', 0) := by
      unfold impl_PackEstimates impl_count_impl_Estimate
      rw [ValidEstimates_is (by omega), hg]
      simp only [hc, decide_true, Bool.and_self, Option.bind_some, Bool.not_true, Bool.false_eq_true, if_false, a2, b2]
      rw [appNames_is (by omega) ls (by simp), Option.bind_some, appNames_is (by omega) lo (by simp only [List.length_append, List.length_cons, List.length_nil]; omega), Option.bind_some, appNum (by omega) (by simp only [List.length_append, List.length_cons, List.length_nil]; omega), Option.bind_some]
      have := p1 (([69] ++ (numP ss.length ++ namesQ ss) ++ (numP os.length ++ namesQ os)) ++ numP l.length) (by simp only [List.length_append, List.length_cons, List.length_nil]; omega)
      rw [Int.ofNat_zero] at this
      rw [this, Option.bind_some]
      have e : ([69] ++ (numP ss.length ++ namesQ ss) ++ (numP os.length ++ namesQ os) ++ numP l.length) ++ q = body := by rw [hbody]; simp
      rw [e, s1]
      rfl
    have hpp : p' = p := by rw [h'] at h; cases h; rfl
    subst hpp
    unfold impl_UnpackEstimates
    have hcheck : impl_checkPacked__impl_UnpackEstimates_c1 p' = some 0 := s6 impl_UnpackEstimates_c1 (by rw [hbody]; rfl)
    have hdr : body.drop 1 = numP ss.length ++ (namesQ ss ++ (numP os.length ++ (namesQ os ++ (numP l.length ++ q)))) := by rw [hbody]; rfl
    rw [hcheck]
    simp only [Option.bind_some, beq_self_eq_true, Bool.not_true, Bool.false_eq_true, if_false, s5, ck_true, s4, hdr]
    rw [unames_is (by omega) ls _ (by simp only [List.length_append]; omega), Option.bind_some]
    simp only
    rw [unames_is (by omega) lo _ (by simp only [List.length_append]; omega), Option.bind_some]
    simp only
    rw [unum (by omega) (by omega), Option.bind_some]
    have := p2 p' [] [] rfl
    rw [List.append_nil, Int.ofNat_zero] at this
    simp only
    rw [this]
    simp only [List.nil_append, List.drop_zero, Option.bind_some, h', beq_self_eq_true, Bool.not_true, Bool.or_self, Bool.not_false, bytes_Equal, Option.isSome_some, Option.getD_some, Bool.or_true, ck_true, Bool.false_eq_true, if_false]

end Go.Proofs.YtpjpfdoaemoddaaGreat
