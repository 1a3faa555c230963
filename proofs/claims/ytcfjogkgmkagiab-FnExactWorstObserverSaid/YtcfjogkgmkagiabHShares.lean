/- What typed forms say: shares of faulty estimates. No condition. -/
import Derived.Test.YtcfjogkgmkagiabHNames
import Derived.Test.YtcfjogkgmkagiabHClean
namespace Go.Proofs.Ytcfjogkgmkagiab
open Go Go.RowKit
set_option linter.unusedSimpArgs false
set_option linter.unusedVariables false

/-! ### Greatest common divisors -/

theorem gcd_step : impl_gcd_l1 = spec_l02Gcd_l1 := id rfl

theorem gcd_loop {a b : Int} (ha : 0 ≤ a) (hb : 1 ≤ b) : ∃ g, whileE spec_l02Gcd_l1 (a, b) = some g ∧ 1 ≤ g ∧ g ∣ a ∧ g ∣ b := by
  obtain ⟨g, h1, h2⟩ := while_post (step := spec_l02Gcd_l1) (fun s => 0 ≤ s.1 ∧ 0 ≤ s.2 ∧ (1 ≤ s.1 ∨ 1 ≤ s.2) ∧ ∀ d, d ∣ s.1 → d ∣ s.2 → d ∣ a ∧ d ∣ b) (fun g => 1 ≤ g ∧ g ∣ a ∧ g ∣ b) (fun s => s.2.toNat) (by
    rintro ⟨x, y⟩ ⟨h1, h2, h3, h4⟩
    simp only at h1 h2 h3 h4
    by_cases c : y = 0
    · right
      subst c
      exact ⟨x, by simp [spec_l02Gcd_l1], by omega, h4 x (Int.dvd_refl _) (Int.dvd_zero _)⟩
    · left
      have e : (y == 0) = false := by simpa using c
      simp only [spec_l02Gcd_l1, e, Bool.not_false, if_true, nz_of c, ck_true]
      have t := Int.tmod_lt_of_pos x (show 0 < y by omega)
      have t0 := Int.tmod_nonneg y h1
      refine ⟨_, rfl, ⟨h2, t0, .inl (by show 1 ≤ y; omega), fun d d1 d2 => h4 d ?_ d1⟩, by show (x.tmod y).toNat < y.toNat; omega⟩
      rw [← Int.mul_tdiv_add_tmod x y]
      exact Int.dvd_add (Int.dvd_mul_of_dvd_left d1) d2) (s := (a, b)) ⟨ha, by show 0 ≤ b; omega, .inr hb, fun d d1 d2 => ⟨d1, d2⟩⟩
  exact ⟨g, h1, h2⟩

noncomputable def gcdN (a b : Int) : Int := Classical.epsilon fun g => whileE spec_l02Gcd_l1 (a, b) = some g
theorem gcdN_all {a b : Int} (ha : 0 ≤ a) (hb : 1 ≤ b) : whileE spec_l02Gcd_l1 (a, b) = some (gcdN a b) ∧ 1 ≤ gcdN a b ∧ gcdN a b ∣ a ∧ gcdN a b ∣ b := by
  obtain ⟨g, h1, h2⟩ := gcd_loop ha hb
  have h : whileE spec_l02Gcd_l1 (a, b) = some (gcdN a b) := Classical.epsilon_spec (p := fun g => whileE spec_l02Gcd_l1 (a, b) = some g) ⟨g, h1⟩
  refine ⟨h, ?_⟩
  rw [h1] at h
  cases h; exact h2
theorem gcdN_is {a b : Int} (ha : 0 ≤ a) (hb : 1 ≤ b) : whileE spec_l02Gcd_l1 (a, b) = some (gcdN a b) ∧ 1 ≤ gcdN a b := ⟨(gcdN_all ha hb).1, (gcdN_all ha hb).2.1⟩

noncomputable def fracN (a b : Int) : Fraction := ⟨a.tdiv (gcdN a b), b.tdiv (gcdN a b)⟩

theorem tdiv_in {a g : Int} (ha : 0 ≤ a) (h1 : a ≤ 1000000) (hg : 1 ≤ g) : 0 ≤ a.tdiv g ∧ a.tdiv g ≤ 1000000 := by
  rw [Int.tdiv_eq_ediv_of_nonneg ha]
  refine ⟨Int.ediv_nonneg ha (by omega), Int.le_trans (Int.ediv_le_self _ ha) h1⟩

theorem make_is {a b : Int} (ha : 0 ≤ a) (h1 : a ≤ 1000000) (hb : 1 ≤ b) (h2 : b ≤ 1000000) : spec_l02Make a b = some (fracN a b) := by
  obtain ⟨g1, g2⟩ := gcdN_is ha hb
  obtain ⟨p1, p2⟩ := tdiv_in ha h1 g2
  obtain ⟨q1, q2⟩ := tdiv_in (show 0 ≤ b by omega) h2 g2
  have hs : spec_l02Size a = some a := by
    unfold spec_l02Size
    have : ¬ a < 0 := by omega
    simp [this]
  unfold spec_l02Make spec_l02Gcd
  rw [hs]
  simp only [Option.bind_some, g1]
  rw [nz_of (by omega), ck_true, wrap_i64 (by omega) (by omega), wrap_i64 (by omega) (by omega)]
  rfl

theorem lowest_is {a b : Int} (ha : 0 ≤ a) (h1 : a ≤ 1000000) (hb : 1 ≤ b) (h2 : b ≤ 1000000) : impl_lowest a b = some (fracN a b) := by
  obtain ⟨g1, g2⟩ := gcdN_is ha hb
  obtain ⟨p1, p2⟩ := tdiv_in ha h1 g2
  obtain ⟨q1, q2⟩ := tdiv_in (show 0 ≤ b by omega) h2 g2
  have c1 : ¬ gcdN a b < 0 := by omega
  have c2 : ¬ b < 0 := by omega
  unfold impl_lowest impl_gcd impl_abs
  rw [gcd_step, g1]
  simp only [Option.bind_some, c1, c2, decide_false, Bool.false_eq_true, if_false]
  rw [nz_of (by omega), ck_true, wrap_i64 (by omega) (by omega), wrap_i64 (by omega) (by omega)]
  rfl

/-! ### Counting -/

def cntN (p : Nat → Bool) : Nat → Int
  | 0 => 0
  | n + 1 => cntN p n + if p n = true then 1 else 0

theorem cntN_in (p : Nat → Bool) : ∀ n : Nat, 0 ≤ cntN p n ∧ cntN p n ≤ n
  | 0 => by simp [cntN]
  | n + 1 => by
    have := cntN_in p n
    simp only [cntN]
    split <;> omega

theorem cntN_pos {p : Nat → Bool} {i : Nat} (h : p i = true) : ∀ n : Nat, i < n → 1 ≤ cntN p n
  | 0, hi => by omega
  | n + 1, hi => by
    simp only [cntN]
    have := cntN_in p n
    rcases Nat.lt_or_ge i n with c | c
    · have := cntN_pos h n c
      split <;> omega
    · have : i = n := by omega
      subst this
      rw [if_pos h]; omega

theorem cntN_le {p q : Nat → Bool} (h : ∀ i, p i = true → q i = true) : ∀ n : Nat, cntN p n ≤ cntN q n
  | 0 => by simp [cntN]
  | n + 1 => by
    have := cntN_le h n
    simp only [cntN]
    by_cases c : p n = true
    · rw [if_pos c, if_pos (h n c)]; omega
    · rw [if_neg c]; split <;> omega

section
variable (l : List Estimate) (f : List Fault)

def isB (i : Nat) : Bool := f.any (·.Index == (i : Int))
def allP (n : Bs) (i : Nat) : Bool := (l.getD i default).Observer == n
def badP (n : Bs) (i : Nat) : Bool := ((l.getD i default).Observer == n) && isB f i
end

theorem set_map {α : Type} {l : List α} {g h : α → Int} {i : Nat} (hi : i < l.length) {v : Int} (h1 : v = h l[i]) (h2 : ∀ j (hj : j < l.length), j ≠ i → g l[j] = h l[j]) : (l.map g).set i v = l.map h := by
  refine List.ext_getElem (by simp) fun j a b => ?_
  have hj : j < l.length := by simpa using b
  rw [List.getElem_set]
  by_cases c : i = j
  · subst c; rw [if_pos rfl, h1]; simp
  · rw [if_neg c]; simp [h2 j hj (fun e => c e.symm)]

theorem shares_spec {l : List Estimate} {f : List Fault} (hl : l.length ≤ 10000) (hf : f.length ≤ 1048576) {ns : List Bs} (hs : Strict ns) (hn : ns.length ≤ 10000) (hm : ∀ x, x ∈ ns ↔ x ∈ obsL l) :
    whileE (spec_l26Shares_l1 l f ns) (List.replicate ns.length 0, List.replicate ns.length 0, 0) = some (ns.map (fun n => cntN (badP l f n) l.length), ns.map (fun n => cntN (allP l n) l.length)) := by
  have hz : List.replicate ns.length (0 : Int) = ns.map (fun _ => 0) := by
    rw [List.map_const']
  have := whileE_run (step := spec_l26Shares_l1 l f ns) (fun i => (ns.map (fun n => cntN (badP l f n) i), ns.map (fun n => cntN (allP l n) i), (i : Int))) l.length (r := (ns.map (fun n => cntN (badP l f n) l.length), ns.map (fun n => cntN (allP l n) l.length))) (fun i hi => by
    obtain ⟨k, hk, hkn⟩ : ∃ k, ∃ h : k < ns.length, ns[k] = (l.getD i default).Observer := by
      have : (l.getD i default).Observer ∈ ns := (hm _).2 (by rw [getD_lt hi]; exact List.mem_map_of_mem (List.getElem_mem hi))
      exact List.getElem_of_mem this
    have hfind := find_is (by omega) hs hk
    rw [hkn] at hfind
    have hne : ∀ j (hj : j < ns.length), j ≠ k → ns[j] ≠ (l.getD i default).Observer := fun j hj hjk e => by
      rw [← hkn] at e
      rcases Nat.lt_or_ge j k with c | c
      · have := List.pairwise_iff_getElem.1 hs j k hj hk c
        rw [e] at this; exact lt_irr _ this
      · have := List.pairwise_iff_getElem.1 hs k j hk hj (by omega)
        rw [e] at this; exact lt_irr _ this
    have ca := cntN_in (allP l ns[k]) i
    have cb := cntN_in (badP l f ns[k]) i
    have ga : (ns.map (fun n => cntN (allP l n) i)).getD k default = cntN (allP l ns[k]) i := by rw [getD_lt (by simpa using hk)]; simp
    have gb : (ns.map (fun n => cntN (badP l f n) i)).getD k default = cntN (badP l f ns[k]) i := by rw [getD_lt (by simpa using hk)]; simp
    have sa : (ns.map (fun n => cntN (allP l n) i)).set k (cntN (allP l ns[k]) i + 1) = ns.map (fun n => cntN (allP l n) (i + 1)) := by
      refine set_map hk ?_ fun j hj hjk => ?_
      · simp [cntN, allP, hkn]
      · have : ((l.getD i default).Observer == ns[j]) = false := by simpa using (hne j hj hjk).symm
        simp only [cntN, allP, this, Bool.false_eq_true, if_false, Int.add_zero]
    have k1 : decide (k < (ns.map (fun n => cntN (allP l n) i)).length) = true := by simpa using hk
    have k2 : decide (k < (ns.map (fun n => cntN (badP l f n) i)).length) = true := by simpa using hk
    simp only [spec_l26Shares_l1, ixOk_nat, hi, decide_true, ck_true, Int.ofNat_lt, if_true, Int.toNat_natCast, wrap_nat1 (show i < 9223372036854775807 by omega), hfind, Option.bind_some, k1, l26Has_is (show f.length ≤ 1099511627776 by omega), ga, gb,
      wrap_i64 (n := cntN (allP l ns[k]) i + 1) (by omega) (by omega), wrap_i64 (n := cntN (badP l f ns[k]) i + 1) (by omega) (by omega), sa]
    cases hb : f.any (·.Index == (i : Int))
    · simp only [Bool.false_eq_true, if_false]
      have : ns.map (fun n => cntN (badP l f n) i) = ns.map (fun n => cntN (badP l f n) (i + 1)) := by
        refine List.map_congr_left fun n _ => ?_
        simp only [cntN, badP, isB, hb, Bool.and_false, Bool.false_eq_true, if_false, Int.add_zero]
      rw [this]
    · simp only [if_true, k2, ck_true]
      have sb : (ns.map (fun n => cntN (badP l f n) i)).set k (cntN (badP l f ns[k]) i + 1) = ns.map (fun n => cntN (badP l f n) (i + 1)) := by
        refine set_map hk ?_ fun j hj hjk => ?_
        · simp [cntN, badP, isB, hb, hkn]
        · have : ((l.getD i default).Observer == ns[j]) = false := by simpa using (hne j hj hjk).symm
          simp only [cntN, badP, this, Bool.false_and, Bool.false_eq_true, if_false, Int.add_zero]
      rw [sb]) (by simp [spec_l26Shares_l1])
  have e0 : ns.map (fun n => cntN (badP l f n) 0) = List.replicate ns.length 0 := by rw [hz]; rfl
  have e1 : ns.map (fun n => cntN (allP l n) 0) = List.replicate ns.length 0 := by rw [hz]; rfl
  simp only [e0, e1] at this
  exact this

theorem inner_shares {l : List Estimate} {f : List Fault} (hl : l.length ≤ 10000) (hf : f.length ≤ 1048576) (ns : List Bs) (sh : List Fraction) (n : Bs) (a b : Int) :
    whileE (impl_faultShares_l2 l f ns sh n a b l (l.length : Int)) (0, 0, 0) = some (cntN (badP l f n) l.length, cntN (allP l n) l.length) := by
  exact whileE_run (step := impl_faultShares_l2 l f ns sh n a b l (l.length : Int)) (fun i => (cntN (badP l f n) i, cntN (allP l n) i, (i : Int))) l.length (r := (cntN (badP l f n) l.length, cntN (allP l n) l.length)) (fun i hi => by
    have ca := cntN_in (allP l n) i
    have cb := cntN_in (badP l f n) i
    simp only [impl_faultShares_l2, ixOk_nat, hi, decide_true, ck_true, Int.ofNat_lt, if_true, Int.toNat_natCast, wrap_nat1 (show i < 9223372036854775807 by omega), isFaulty_is (show f.length ≤ 1099511627776 by omega), Option.bind_some,
      wrap_i64 (n := cntN (allP l n) i + 1) (by omega) (by omega), wrap_i64 (n := cntN (badP l f n) i + 1) (by omega) (by omega)]
    cases ho : ((l.getD i default).Observer == n)
    · simp only [cntN, allP, badP, ho, Bool.false_and, Bool.false_eq_true, if_false, Int.add_zero, Bool.not_false, if_true]
    · cases hb : f.any (·.Index == (i : Int))
      · simp only [cntN, allP, badP, isB, ho, hb, Bool.true_and, Bool.false_eq_true, if_false, if_true, Int.add_zero, Bool.not_true]
      · simp only [cntN, allP, badP, isB, ho, hb, Bool.true_and, if_true, Bool.not_true, Bool.false_eq_true, if_false]) (by simp [impl_faultShares_l2])

noncomputable def shareN (l : List Estimate) (f : List Fault) (n : Bs) : Fraction := fracN (cntN (badP l f n) l.length) (cntN (allP l n) l.length)

theorem all_pos {l : List Estimate} {n : Bs} (h : n ∈ obsL l) : 1 ≤ cntN (allP l n) l.length := by
  obtain ⟨x, hx, e⟩ := List.mem_map.1 h
  obtain ⟨i, hi, rfl⟩ := List.getElem_of_mem hx
  exact cntN_pos (i := i) (by simp only [allP, ← e, getD_lt hi, beq_self_eq_true]) _ hi

theorem impl_shares {l : List Estimate} {f : List Fault} (hl : l.length ≤ 10000) (hf : f.length ≤ 1048576) {ns : List Bs} (hi : impl_namesOf__impl_observerOf l = some ns) (hn : ns.length ≤ 10000) (hm : ∀ x, x ∈ ns ↔ x ∈ obsL l) :
    impl_faultShares l f = some (ns, ns.map (shareN l f)) := by
  unfold impl_faultShares
  rw [hi]
  simp only [Option.bind_some]
  have := while_up (step := impl_faultShares_l1 l f ns (ns.length : Int)) (fun i => (ns.take i).map (shareN l f)) ns.length (r := ns.map (shareN l f)) (fun i hi => by
    have hmem : ns[i] ∈ obsL l := (hm _).1 (List.getElem_mem hi)
    have a1 := all_pos hmem
    have a2 := cntN_in (allP l ns[i]) l.length
    have b2 := cntN_in (badP l f ns[i]) l.length
    simp only [impl_faultShares_l1, ixOk_nat, hi, decide_true, ck_true, Int.ofNat_lt, if_true, Int.toNat_natCast, wrap_nat1 (show i < 9223372036854775807 by omega), inner_shares hl hf, Option.bind_some, getD_lt hi,
      lowest_is b2.1 (show cntN (badP l f ns[i]) l.length ≤ 1000000 by omega) a1 (show cntN (allP l ns[i]) l.length ≤ 1000000 by omega)]
    rw [appOk_of (by simp; omega), ck_true, List.take_add_one, List.getElem?_eq_getElem hi]
    simp only [List.map_append, Option.toList_some, List.map_cons, List.map_nil, shareN]) (by rw [List.take_length]; simp [impl_faultShares_l1])
  simp only [List.take_zero, List.map_nil] at this
  rw [this]; rfl

end Go.Proofs.Ytcfjogkgmkagiab
