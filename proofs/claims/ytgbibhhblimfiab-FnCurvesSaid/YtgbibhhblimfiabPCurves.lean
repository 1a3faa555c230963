/- The plain law of Curves. No condition. -/
import Derived.Test.YtgbibhhblimfiabHEst
import Derived.Test.YtgbibhhblimfiabHPts
import Derived.Test.YtgbibhhblimfiabHDrawT
namespace Go.Proofs.Ytgbibhhblimfiab
open Go Go.RowKit
set_option linter.unusedSimpArgs false
set_option linter.unusedVariables false

/-! ### Drawn estimates are valid -/

def eqE (a b : Estimate) : Bool := !beforeE a b && !beforeE b a

theorem l06Find_is {l : List Estimate} (hl : l.length ≤ 1099511627776) (e : Estimate) : spec_l06Find l e = some (match (List.range l.length).find? (fun i => eqE (l.getD i default) e) with | some j => (j : Int) | none => -1) := by
  unfold spec_l06Find
  rw [while_find (step := spec_l06Find_l1 l e) (fun i => eqE (l.getD i default) e) (fun j => (j : Int)) l.length
    (fun i hi => by
      simp only [spec_l06Find_l1, ixOk_nat, hi, decide_true, ck_true, Int.ofNat_lt, if_true, Int.toNat_natCast, wrap_nat1 (show i < 9223372036854775807 by omega), Before_is, Option.bind_some, Option.isSome_some, Option.getD_some, Bool.or_true]
      by_cases hh : eqE (l.getD i default) e = true
      · have hh2 : (!beforeE (l.getD i default) e && !beforeE e (l.getD i default)) = true := hh
        rw [if_pos hh, if_pos hh2]
      · have hh2 : ¬ (!beforeE (l.getD i default) e && !beforeE e (l.getD i default)) = true := hh
        rw [if_neg hh, if_neg hh2])
    (by simp [spec_l06Find_l1])]
  cases (List.range l.length).find? (fun i => eqE (l.getD i default) e) <;> rfl

theorem l06Put_loop {l : List Estimate} (hl : l.length ≤ 1000) (e : Estimate) : ∀ k : Nat, k ≤ l.length → (k < l.length → beforeE e (l.getD k default) = true) →
    ∃ k' : Nat, k' ≤ l.length ∧ whileE (spec_l06Put_l1 l e) (k : Int) = some (k' : Int) ∧ (k' < l.length → beforeE e (l.getD k' default) = true) ∧ (0 < k' → beforeE e (l.getD (k' - 1) default) = false)
  | 0, hk, hb => ⟨0, hk, whileE_done (by simp [spec_l06Put_l1, ck_true]), hb, fun h => by omega⟩
  | k + 1, hk, hb => by
    have e0 : decide ((0 : Int) < ((k + 1 : Nat) : Int)) = true := decide_eq_true (by omega)
    have w1 : IntKind.i64.wrap (((k + 1 : Nat) : Int) - 1) = (k : Int) := by rw [wrap_i64 (by omega) (by omega)]; omega
    have ok1 : ixOk (k : Int) l.length = true := by rw [ixOk_nat]; simp; omega
    cases hbe : beforeE e (l.getD k default)
    · refine ⟨k + 1, hk, whileE_done ?_, hb, fun _ => by simpa using hbe⟩
      simp only [spec_l06Put_l1, e0, w1, ok1, Before_is, Int.toNat_natCast, hbe, Option.isSome_some, Option.getD_some, Bool.not_true, Bool.false_or, Bool.or_true, ck_true, Bool.and_false, Bool.false_eq_true, if_false]
    · rw [whileE_next (s' := (k : Int)) (by
        simp only [spec_l06Put_l1, e0, w1, ok1, Before_is, Int.toNat_natCast, hbe, Option.isSome_some, Option.getD_some, Bool.not_true, Bool.false_or, Bool.or_true, ck_true, Bool.and_true, if_true])]
      exact l06Put_loop hl e k (by omega) (fun _ => hbe)

theorem put_getD (l : List Estimate) (e : Estimate) {k : Nat} (hk : k ≤ l.length) (i : Nat) : (((l.take k) ++ [e]) ++ l.drop k).getD i default = if i < k then l.getD i default else if i = k then e else l.getD (i - 1) default := by
  have hlen : (l.take k).length = k := by simp; omega
  rw [List.append_assoc]
  by_cases c : i < k
  · rw [if_pos c, List.getD_eq_getElem?_getD, List.getD_eq_getElem?_getD, List.getElem?_append_left (by omega), List.getElem?_take_of_lt c]
  · rw [if_neg c, List.getD_eq_getElem?_getD, List.getElem?_append_right (by omega), hlen]
    by_cases c2 : i = k
    · subst c2; rw [if_pos rfl, Nat.sub_self]; rfl
    · rw [if_neg c2]
      obtain ⟨j, rfl⟩ : ∃ j, i = k + (j + 1) := ⟨i - k - 1, by omega⟩
      rw [show k + (j + 1) - k = j + 1 by omega]
      show ((l.drop k)[j]?).getD default = _
      rw [List.getElem?_drop, List.getD_eq_getElem?_getD, show k + (j + 1) - 1 = k + j by omega]

theorem goodE_put {l : List Estimate} {e : Estimate} (hg : goodE l = true) (he : oneE e = true) {k : Nat} (hk : k ≤ l.length) (h1 : k < l.length → beforeE e (l.getD k default) = true) (h2 : 0 < k → beforeE (l.getD (k - 1) default) e = true) :
    goodE (((l.take k) ++ [e]) ++ l.drop k) = true := by
  have hat : ∀ i, i < l.length → oneE (l.getD i default) = true ∧ (0 < i → beforeE (l.getD (i - 1) default) (l.getD i default) = true) := by
    intro i hi
    unfold goodE at hg
    have := all_range' hg hi
    unfold okE at this
    simp only [Bool.and_eq_true, Bool.not_eq_true', Bool.and_eq_false_iff, decide_eq_false_iff_not, Bool.not_eq_false'] at this
    exact ⟨this.1, fun h0 => this.2.elim (fun c => absurd h0 c) id⟩
  unfold goodE
  rw [List.all_eq_true]
  intro i hi
  have hi' : i < l.length + 1 := by
    have : (((l.take k) ++ [e]) ++ l.drop k).length = l.length + 1 := by simp; omega
    rw [this] at hi; simpa using hi
  have okmk : ∀ A B : Bool, A = true → (0 < i → B = true) → (A && !(decide (0 < i) && !B)) = true := by
    intro A B hA hB
    rw [hA, Bool.true_and]
    by_cases c : 0 < i
    · rw [hB c]; simp
    · simp [c]
  unfold okE
  rw [put_getD l e hk, put_getD l e hk]
  refine okmk _ _ ?_ (fun h0 => ?_)
  · by_cases c : i < k
    · rw [if_pos c]; exact (hat i (by omega)).1
    · rw [if_neg c]
      by_cases c2 : i = k
      · rw [if_pos c2]; exact he
      · rw [if_neg c2]; exact (hat (i - 1) (by omega)).1
  · by_cases c : i < k
    · rw [if_pos (show i - 1 < k by omega), if_pos c]; exact (hat i (by omega)).2 h0
    · rw [if_neg c]
      by_cases c2 : i = k
      · rw [if_pos c2, if_pos (show i - 1 < k by omega), c2]; exact h2 (by omega)
      · rw [if_neg c2]
        by_cases c3 : i - 1 = k
        · rw [if_neg (show ¬ i - 1 < k by omega), if_pos c3, c3]; exact h1 (by omega)
        · rw [if_neg (show ¬ i - 1 < k by omega), if_neg c3]
          exact (hat (i - 1) (by omega)).2 (by omega)

theorem l06Put_is {l : List Estimate} {e : Estimate} (hl : l.length ≤ 1000) (hg : goodE l = true) (he : oneE e = true) (hf : ∀ i, i < l.length → eqE (l.getD i default) e = false) :
    ∃ l', spec_l06Put l e = some l' ∧ goodE l' = true ∧ l'.length = l.length + 1 := by
  obtain ⟨k, hk, hw, h1, h2⟩ := l06Put_loop hl e l.length (Nat.le_refl _) (fun h => by omega)
  refine ⟨((l.take k) ++ [e]) ++ l.drop k, ?_, goodE_put hg he hk h1 (fun h0 => ?_), by simp; omega⟩
  · unfold spec_l06Put
    rw [hw]
    simp only [Option.bind_some]
    rw [cutOk_of (by omega) (by omega) (by omega), ck_true, appOk_of (by simp [cut]; omega), ck_true, appOk_of (by simp [cut]; omega), ck_true, cutOk_of (by omega) (by omega) (by omega), ck_true, appOk_of (by simp [cut]; omega), ck_true]
    simp [cut]
  · have := hf (k - 1) (by omega)
    unfold eqE at this
    rw [h2 h0] at this
    simpa using this

theorem stars_good : ∀ i : Fin 3, nameB (([[109, 105, 114, 97], [114, 114, 45, 108, 121, 114], [115, 115, 45, 99, 121, 103]] : List (List UInt8)).getD i.val default) = true := by decide +kernel
theorem people_good : ∀ i : Fin 3, nameB (([[97, 98], [99, 100], [101]] : List (List UInt8)).getD i.val default) = true := by decide +kernel

theorem mem_good {l : List (List UInt8)} {n : List UInt8} (hn : n ∈ l) {m : Nat} (hm : l.length = m) (h : ∀ i : Fin m, nameB (l.getD i.val default) = true) : nameB n = true := by
  obtain ⟨i, hi, rfl⟩ := List.getElem_of_mem hn
  have := h ⟨i, by omega⟩
  rwa [getD_lt hi] at this

theorem oneE_mk {t : Int} {s o : List UInt8} {g : Int} {f : Bool} (h1 : 0 ≤ t) (h2 : t ≤ 10000000) (hs : nameB s = true) (ho : nameB o = true) (h3 : -2000 ≤ g) (h4 : g ≤ 20000) : oneE ⟨t, s, o, g, f⟩ = true := by
  unfold oneE
  simp only [hs, ho, Bool.and_true, Bool.and_eq_true, decide_eq_true_eq]
  exact ⟨⟨h1, h2⟩, h3, h4⟩

theorem l06New_is {m : Nat} {s : L00Src} (h : SrcN (m + 20) s) : ∃ e s', spec_l06New s = some (e, s') ∧ oneE e = true ∧ SrcN m s' := by
  unfold spec_l06New
  obtain ⟨t, s1, e1, p1, q1, _, h1⟩ := pick_is (m := m + 18) h (n := 30) (by omega)
  have := q1 (by omega)
  obtain ⟨c, s2, e2, h2⟩ := one_is (m := m + 16) h1 (n := 2) (by omega)
  simp only [e1, e2, Option.bind_some]
  have rest : ∀ {m : Nat} {s : L00Src} (h : SrcN (m + 8) s) {t : Int} (t0 : 0 ≤ t) (t1 : t ≤ 100000), ∃ e s', ((spec_l00Src_text s ([([109, 105, 114, 97] : List UInt8), ([114, 114, 45, 108, 121, 114] : List UInt8), ([115, 115, 45, 99, 121, 103] : List UInt8)] : List (List UInt8))).bind fun y_5 =>
    (spec_l00Src_text y_5.2 ([([97, 98] : List UInt8), ([99, 100] : List UInt8), ([101] : List UInt8)] : List (List UInt8))).bind fun y_6 =>
    (spec_l00Src_pick y_6.2 60).bind fun y_7 =>
    (spec_l00Src_one y_7.2 5).bind fun y_8 =>
    some ((Estimate.mk t y_5.1 y_6.1 (IntKind.i64.wrap (8000 + (IntKind.i64.wrap (50 * y_7.1)))) y_8.1), y_8.2)) = some (e, s') ∧ oneE e = true ∧ SrcN m s' := by
    intro m s h t t0 t1
    obtain ⟨n1, s1, e1, g1, h1⟩ := text_is (m := m + 6) h (l := ([([109, 105, 114, 97] : List UInt8), ([114, 114, 45, 108, 121, 114] : List UInt8), ([115, 115, 45, 99, 121, 103] : List UInt8)] : List (List UInt8))) (by decide) (by decide)
    obtain ⟨n2, s2, e2, g2, h2⟩ := text_is (m := m + 4) h1 (l := ([([97, 98] : List UInt8), ([99, 100] : List UInt8), ([101] : List UInt8)] : List (List UInt8))) (by decide) (by decide)
    obtain ⟨v, s3, e3, p3, q3, _, h3⟩ := pick_is (m := m + 2) h2 (n := 60) (by omega)
    have := q3 (by omega)
    obtain ⟨c, s4, e4, h4⟩ := one_is (m := m) h3 (n := 5) (by omega)
    simp only [e1, e2, e3, e4, Option.bind_some]
    rw [wrap_i64 (n := 50 * v) (by omega) (by omega), wrap_i64 (n := 8000 + 50 * v) (by omega) (by omega)]
    exact ⟨_, _, rfl, oneE_mk t0 (by omega) (mem_good g1 rfl stars_good) (mem_good g2 rfl people_good) (by omega) (by omega), h4⟩
  rw [wrap_i64 (n := 1000 * t) (by omega) (by omega)]
  cases c
  · simp only [Bool.false_eq_true, if_false]
    obtain ⟨e, s', a1, a2, a3⟩ := rest (m := m + 8) h2 (t := 1000 * t) (by omega) (by omega)
    exact ⟨e, s', a1, a2, a3.le (by omega)⟩
  · obtain ⟨u, s3, e3, p3, q3, _, h3⟩ := pick_is (m := m + 14) h2 (n := 3000) (by omega)
    have := q3 (by omega)
    simp only [if_true, e3, Option.bind_some]
    rw [wrap_i64 (n := 1000 * t + u) (by omega) (by omega)]
    obtain ⟨e, s', a1, a2, a3⟩ := rest (m := m + 6) h3 (t := 1000 * t + u) (by omega) (by omega)
    exact ⟨e, s', a1, a2, a3.le (by omega)⟩

theorem A2Estimates_is {c : List UInt8} (hc : c.length ≤ 1099511627776) : ∃ l, spec_A2Estimates c = some l ∧ goodE l = true ∧ l.length ≤ 12 := by
  unfold spec_A2Estimates spec_l06Draw
  have hfrom : spec_l00From c = some ⟨c, 0, 0⟩ := id rfl
  have w13 : IntKind.i64.wrap (12 + 1) = 13 := by decide
  obtain ⟨n, s1, e1, p1, q1, _, h1⟩ := pick_is (m := 1000) ((srcN_from hc).le (by omega)) (n := 13) (by omega)
  have := q1 (by omega)
  simp only [hfrom, Option.bind_some, w13, e1]
  obtain ⟨y, hy, hq⟩ := while_post (step := spec_l06Draw_l1)
    (fun x => 0 ≤ x.2.2 ∧ (x.2.1.length : Int) + x.2.2 ≤ 12 ∧ SrcN (30 * x.2.2.toNat) x.1 ∧ goodE x.2.1 = true) (fun y => goodE y.2 = true ∧ y.2.length ≤ 12) (fun x => x.2.2.toNat) (by
    rintro ⟨s, out, k⟩ ⟨k0, k1, hs, hg⟩
    simp only at k0 k1 hs hg
    by_cases c : 0 < k
    · left
      obtain ⟨e, s', e2, he, h2⟩ := l06New_is (m := 30 * (k - 1).toNat) (hs.le (by omega))
      have w : IntKind.i64.wrap (k - 1) = k - 1 := wrap_i64 (by omega) (by omega)
      simp only [spec_l06Draw_l1, c, decide_true, if_true, e2, Option.bind_some, w]
      rw [l06Find_is (by omega)]
      cases hfd : (List.range out.length).find? (fun i => eqE (out.getD i default) e) with
      | some j =>
        have : ¬ (j : Int) < 0 := by omega
        simp only [Option.bind_some, this, decide_false, Bool.false_eq_true, if_false]
        exact ⟨_, rfl, ⟨by show 0 ≤ k - 1; omega, by show (out.length : Int) + (k - 1) ≤ 12; omega, h2, hg⟩, by show (k - 1).toNat < k.toNat; omega⟩
      | none =>
        rw [List.find?_eq_none] at hfd
        obtain ⟨l', e3, hg3, hl3⟩ := l06Put_is (l := out) (by omega) hg he (fun i hi => by simpa using hfd i (by simpa using hi))
        have : decide ((-1 : Int) < 0) = true := by decide
        simp only [Option.bind_some, this, if_true, e3]
        exact ⟨_, rfl, ⟨by show 0 ≤ k - 1; omega, by show (l'.length : Int) + (k - 1) ≤ 12; omega, h2, hg3⟩, by show (k - 1).toNat < k.toNat; omega⟩
    · right
      exact ⟨(s, out), by simp [spec_l06Draw_l1, c], hg, by show out.length ≤ 12; omega⟩) (s := (s1, [], n)) ⟨p1, by show ((([] : List Estimate).length : Nat) : Int) + n ≤ 12; simp; omega, h1.le (by show 30 * n.toNat ≤ 1000; omega), rfl⟩
  rw [hy]
  exact ⟨y.2, rfl, hq.1, hq.2⟩

/-! ### Times -/

theorem goodE_at {l : List Estimate} (hg : goodE l = true) {i : Nat} (hi : i < l.length) : oneE (l.getD i default) = true ∧ (0 < i → (l.getD (i - 1) default).Time ≤ (l.getD i default).Time) := by
  unfold goodE at hg
  have := all_range' hg hi
  unfold okE at this
  simp only [Bool.and_eq_true, Bool.not_eq_true', Bool.and_eq_false_iff, decide_eq_false_iff_not, Bool.not_eq_false'] at this
  refine ⟨this.1, fun h0 => ?_⟩
  have hb : beforeE (l.getD (i - 1) default) (l.getD i default) = true := this.2.elim (fun c => absurd h0 c) id
  unfold beforeE at hb
  split at hb
  · omega
  · have := of_decide_eq_true hb; omega

theorem times_rise {l : List Estimate} (hg : goodE l = true) : ∀ (d i : Nat), i + d < l.length → (l.getD i default).Time ≤ (l.getD (i + d) default).Time
  | 0, i, _ => Int.le_refl _
  | d + 1, i, h => by
    have h1 := times_rise hg d i (by omega)
    have h2 := (goodE_at hg (show i + (d + 1) < l.length from h)).2 (by omega)
    rw [show i + (d + 1) - 1 = i + d by omega] at h2
    omega

theorem oneE_in {e : Estimate} (h : oneE e = true) : 0 ≤ e.Time ∧ e.Time ≤ 10000000 ∧ -2000 ≤ e.Mag ∧ e.Mag ≤ 20000 := by
  unfold oneE at h
  simp only [Bool.and_eq_true, decide_eq_true_eq] at h
  exact ⟨h.1.1.1.1, h.1.1.1.2, h.2.1, h.2.2⟩

/-! ### The mean of magnitudes -/

theorem sum_in : ∀ (l : List Int), (∀ x ∈ l, -2000 ≤ x ∧ x ≤ 20000) → -2000 * (l.length : Int) ≤ l.sum ∧ l.sum ≤ 20000 * (l.length : Int)
  | [], _ => by simp
  | x :: l, h => by
    have ih := sum_in l fun y hy => h y (by simp [hy])
    have := h x (by simp)
    simp only [List.sum_cons, List.length_cons]
    omega

theorem sum_is {l : List Int} (hl : l.length ≤ 100) (h : ∀ x ∈ l, -2000 ≤ x ∧ x ≤ 20000) : impl_sum l = some l.sum := by
  unfold impl_sum
  have := while_up (step := impl_sum_l1 l (l.length : Int)) (fun i => (l.take i).sum) l.length (r := l.sum) (fun i hi => by
    have hm := h _ (getD_mem hi default)
    have hs := sum_in (l.take i) fun x hx => h x (List.mem_of_mem_take hx)
    have hlt : (l.take i).length ≤ 100 := by simp; omega
    have w : IntKind.i64.wrap ((l.take i).sum + l.getD i default) = (l.take i).sum + l.getD i default := wrap_i64 (by omega) (by omega)
    simp only [impl_sum_l1, ixOk_nat, hi, decide_true, ck_true, Int.ofNat_lt, if_true, Int.toNat_natCast, wrap_nat1 (show i < 9223372036854775807 by omega), w]
    rw [List.take_add_one, List.sum_append, List.getElem?_eq_getElem hi, getD_lt hi]
    simp) (by simp [impl_sum_l1])
  simp only [List.take_zero, List.sum_nil] at this
  rw [this]; rfl

theorem mean_in {s n : Int} (h0 : 1 ≤ n) (h1 : n ≤ 12) (h2 : -2000 * n ≤ s) (h3 : s ≤ 20000 * n) : ∃ m, impl_nearest s n = some m ∧ -2000 ≤ m ∧ m ≤ 20000 := by
  unfold impl_nearest impl_floorDiv
  rw [nz_of (by omega), ck_true]
  have key : s = n * (s.tdiv n) + s.tmod n := (Int.mul_tdiv_add_tmod s n).symm
  have lo : -n < s.tmod n ∧ s.tmod n < n := ⟨Int.lt_tmod_of_pos s (by omega), Int.tmod_lt_of_pos s (by omega)⟩
  generalize s.tdiv n = q at key ⊢
  generalize s.tmod n = r at key lo ⊢
  have hn : n = 1 ∨ n = 2 ∨ n = 3 ∨ n = 4 ∨ n = 5 ∨ n = 6 ∨ n = 7 ∨ n = 8 ∨ n = 9 ∨ n = 10 ∨ n = 11 ∨ n = 12 := by omega
  have fin : ∀ q' : Int, -2000 ≤ q' → q' ≤ 20000 → (s - q' * n ≥ 0 ∧ s - q' * n < n) → (-1000000000 ≤ q' * n ∧ q' * n ≤ 1000000000) → (n - (s - q' * n) ≤ s - q' * n → q' ≤ 19999) → ∃ m, (if (decide ((IntKind.i64.wrap (n - (IntKind.i64.wrap (s - (IntKind.i64.wrap (q' * n)))))) ≤ (IntKind.i64.wrap (s - (IntKind.i64.wrap (q' * n)))))) = true then some (IntKind.i64.wrap (q' + 1)) else some q') = some m ∧ -2000 ≤ m ∧ m ≤ 20000 := by
    intro q' a1 a2 a3 a4 a5
    rw [wrap_i64 (n := q' * n) (by omega) (by omega), wrap_i64 (n := s - q' * n) (by omega) (by omega), wrap_i64 (n := n - (s - q' * n)) (by omega) (by omega)]
    by_cases c : n - (s - q' * n) ≤ s - q' * n
    · simp only [c, decide_true, if_true]
      have := a5 c
      exact ⟨_, rfl, by rw [wrap_i64 (by omega) (by omega)]; omega, by rw [wrap_i64 (by omega) (by omega)]; omega⟩
    · simp only [c, decide_false, Bool.false_eq_true, if_false]
      exact ⟨_, rfl, a1, a2⟩
  by_cases c : r < 0
  · simp only [c, decide_true, if_true]
    rw [wrap_i64 (n := q) (by rcases hn with rfl | rfl | rfl | rfl | rfl | rfl | rfl | rfl | rfl | rfl | rfl | rfl <;> omega) (by rcases hn with rfl | rfl | rfl | rfl | rfl | rfl | rfl | rfl | rfl | rfl | rfl | rfl <;> omega),
      wrap_i64 (n := q - 1) (by rcases hn with rfl | rfl | rfl | rfl | rfl | rfl | rfl | rfl | rfl | rfl | rfl | rfl <;> omega) (by rcases hn with rfl | rfl | rfl | rfl | rfl | rfl | rfl | rfl | rfl | rfl | rfl | rfl <;> omega)]
    simp only [Option.bind_some]
    refine fin (q - 1) ?_ ?_ ?_ ?_ ?_ <;> rcases hn with rfl | rfl | rfl | rfl | rfl | rfl | rfl | rfl | rfl | rfl | rfl | rfl <;> omega
  · simp only [c, decide_false, Bool.false_eq_true, if_false]
    rw [wrap_i64 (n := q) (by rcases hn with rfl | rfl | rfl | rfl | rfl | rfl | rfl | rfl | rfl | rfl | rfl | rfl <;> omega) (by rcases hn with rfl | rfl | rfl | rfl | rfl | rfl | rfl | rfl | rfl | rfl | rfl | rfl <;> omega)]
    simp only [Option.bind_some]
    refine fin q ?_ ?_ ?_ ?_ ?_ <;> rcases hn with rfl | rfl | rfl | rfl | rfl | rfl | rfl | rfl | rfl | rfl | rfl | rfl <;> omega

/-! ### The curve -/

def miraN : List UInt8 := [109, 105, 114, 97]
def wantE (e : Estimate) : Bool := e.Star == miraN && !e.Fainter
def seenN (l : List Estimate) : List Estimate := keptTo (α := Estimate) (fun i => wantE (l.getD i default)) (fun i => l.getD i default) l.length

theorem seen_mem {l : List Estimate} {e : Estimate} : e ∈ seenN l ↔ ∃ i, i < l.length ∧ wantE (l.getD i default) = true ∧ l.getD i default = e := by
  unfold seenN keptTo
  simp only [List.mem_map, List.mem_filter, List.mem_range]
  constructor
  · rintro ⟨i, ⟨h1, h2⟩, h3⟩; exact ⟨i, h1, h2, h3⟩
  · rintro ⟨i, h1, h2, h3⟩; exact ⟨i, ⟨h1, h2⟩, h3⟩

theorem seen_rise {l : List Estimate} (hg : goodE l = true) {i j : Nat} (hij : i ≤ j) (hj : j < (seenN l).length) : ((seenN l).getD i default).Time ≤ ((seenN l).getD j default).Time := by
  rcases Nat.lt_or_ge i j with c | c
  · have hp : (seenN l).Pairwise fun a b => a.Time ≤ b.Time := by
      unfold seenN keptTo
      rw [List.pairwise_map]
      refine List.Pairwise.imp_of_mem (R := (· < ·)) (fun {a b} ha hb h => ?_) (List.pairwise_lt_range.filter _)
      have hb' : b < l.length := by
        have := (List.mem_filter.1 hb).1
        simpa using this
      have := times_rise hg (b - a) a (by omega)
      rwa [show a + (b - a) = b by omega] at this
    rw [getD_lt (show i < (seenN l).length by omega), getD_lt hj]
    exact List.pairwise_iff_getElem.1 hp i j (by omega) hj c
  · rw [show i = j by omega]; exact Int.le_refl _

theorem seen_one {l : List Estimate} (hg : goodE l = true) {i : Nat} (hi : i < (seenN l).length) : oneE ((seenN l).getD i default) = true := by
  obtain ⟨k, hk, _, e⟩ := seen_mem.1 (getD_mem hi default)
  rw [← e]; exact (goodE_at hg hk).1

/-- A point behind the others. -/
theorem goodP_app {c : List Point} {p : Point} (hg : goodP c = true) (h1 : 0 ≤ p.Time) (h2 : p.Time ≤ 10000000) (h3 : -2000 ≤ p.Mag) (h4 : p.Mag ≤ 20000) (hl : 0 < c.length → (c.getD (c.length - 1) default).Time < p.Time) : goodP (c ++ [p]) = true := by
  have ga : ∀ j, j < c.length → (c ++ [p]).getD j default = c.getD j default := fun j hj => by
    rw [List.getD_eq_getElem?_getD, List.getD_eq_getElem?_getD, List.getElem?_append_left hj]
  have gx : (c ++ [p]).getD c.length default = p := by
    rw [List.getD_eq_getElem?_getD, List.getElem?_append_right (Nat.le_refl _), Nat.sub_self]; rfl
  unfold goodP
  rw [List.all_eq_true]
  intro i hi
  have hi' : i < c.length + 1 := by simpa using hi
  rcases Nat.lt_or_ge i c.length with h | h
  · unfold goodP at hg
    have := all_range' hg h
    unfold okP at this ⊢
    rw [ga i h, ga (i - 1) (by omega)]
    exact this
  · obtain rfl : i = c.length := by omega
    unfold okP
    rw [gx]
    have e1 : ((decide (0 ≤ p.Time) && decide (p.Time ≤ 10000000)) && (decide (-2000 ≤ p.Mag) && decide (p.Mag ≤ 20000))) = true := by
      simp only [Bool.and_eq_true, decide_eq_true_eq]; exact ⟨⟨h1, h2⟩, h3, h4⟩
    rw [e1, Bool.true_and]
    by_cases h0 : 0 < c.length
    · rw [ga (c.length - 1) (by omega)]
      have := hl h0
      have e2 : decide (p.Time ≤ (c.getD (c.length - 1) default).Time) = false := decide_eq_false (by omega)
      rw [e2]; simp
    · have e2 : decide (0 < c.length) = false := by simpa using h0
      rw [e2]; rfl

theorem inner_is {l : List Estimate} (hg : goodE l = true) (hl : (seenN l).length ≤ 12) (out : List Point) (time : Int) : ∀ (d i : Nat) (mags : List Int), i + d = (seenN l).length → mags.length ≤ i → (∀ x ∈ mags, -2000 ≤ x ∧ x ≤ 20000) →
    ∃ (i' : Nat) (mags' : List Int), whileE (impl_CurveOf_l2 (seenN l) out time) ((i : Int), mags) = some ((i' : Int), mags') ∧ i ≤ i' ∧ i' ≤ (seenN l).length ∧ mags'.length ≤ i' ∧ mags.length ≤ mags'.length ∧ (∀ x ∈ mags', -2000 ≤ x ∧ x ≤ 20000) ∧ (∀ j, i ≤ j → j < i' → ((seenN l).getD j default).Time = time) ∧
      (i' < (seenN l).length → ((seenN l).getD i' default).Time ≠ time) ∧ (i < i' → mags.length < mags'.length)
  | 0, i, mags, hd, hm, hx => by
    have hlt : ¬ i < (seenN l).length := by omega
    refine ⟨i, mags, whileE_done ?_, Nat.le_refl _, by omega, hm, Nat.le_refl _, hx, fun j a b => by omega, fun c => by omega, fun c => by omega⟩
    simp [impl_CurveOf_l2, hlt, ck_true]
  | d + 1, i, mags, hd, hm, hx => by
    have hlt : i < (seenN l).length := by omega
    obtain ⟨t0, t1, g0, g1⟩ := oneE_in (seen_one hg hlt)
    by_cases ht : ((seenN l).getD i default).Time = time
    · have hs : impl_CurveOf_l2 (seenN l) out time ((i : Int), mags) = some (.inl (((i + 1 : Nat) : Int), mags ++ [((seenN l).getD i default).Mag])) := by
        have e : ((((seenN l).getD i default).Time) == time) = true := by simpa using ht
        simp only [impl_CurveOf_l2, ixOk_nat, hlt, decide_true, ck_true, Int.ofNat_lt, Int.toNat_natCast, wrap_nat1 (show i < 9223372036854775807 by omega), e, Bool.and_self, Bool.or_true, if_true, Bool.not_true, Bool.false_or]
        rw [appOk_of (by simp; omega), ck_true]
      obtain ⟨i', mags', w, a1, a2, a3, a4, a5, a6, a7, a8⟩ := inner_is hg hl out time d (i + 1) (mags ++ [((seenN l).getD i default).Mag]) (by omega) (by simp; omega) (fun x hxm => by
        rcases List.mem_append.1 hxm with h | h
        · exact hx x h
        · simp only [List.mem_singleton] at h; subst h; exact ⟨g0, g1⟩)
      simp only [List.length_append, List.length_cons, List.length_nil] at a4
      refine ⟨i', mags', by rw [whileE_next hs]; exact w, by omega, a2, a3, by omega, a5, fun j h1 h2 => ?_, a7, fun _ => by omega⟩
      rcases Nat.lt_or_ge i j with c | c
      · exact a6 j (by omega) h2
      · rw [show j = i by omega]; exact ht
    · refine ⟨i, mags, whileE_done ?_, Nat.le_refl _, by omega, hm, Nat.le_refl _, hx, fun j a b => by omega, fun _ => ht, fun c => by omega⟩
      have e : ((((seenN l).getD i default).Time) == time) = false := by simpa using ht
      simp only [impl_CurveOf_l2, ixOk_nat, hlt, decide_true, ck_true, Int.ofNat_lt, Int.toNat_natCast, e, Bool.and_false, Bool.or_true, Bool.false_eq_true, if_false, Bool.not_true, Bool.false_or]

/-- What the curve of the list has. -/
structure CurveFor (seen : List Estimate) (n : Nat) (c : List Point) : Prop where
  good : goodP c = true
  len : c.length ≤ n
  has : ∀ j, j < n → ∃ m, m < c.length ∧ (c.getD m default).Time = (seen.getD j default).Time

theorem chosen_is {l : List Estimate} (hl : l.length ≤ 100) : impl_chosen_impl_Estimate__impl_CurveOf_c1 l miraN = some (seenN l) := by
  unfold impl_chosen_impl_Estimate__impl_CurveOf_c1
  rw [while_keep (step := impl_chosen_impl_Estimate__impl_CurveOf_c1_l1 miraN l (l.length : Int)) (fun i => wantE (l.getD i default)) (fun i => l.getD i default) l.length (fun out i hi ho => by
    simp only [impl_chosen_impl_Estimate__impl_CurveOf_c1_l1, impl_CurveOf_c1, ixOk_nat, hi, decide_true, ck_true, Int.ofNat_lt, if_true, Int.toNat_natCast, wrap_nat1 (show i < 9223372036854775807 by omega), Option.bind_some,
      appOk_of (show (out.length + ([l.getD i default] : List Estimate).length) * 56 ≤ 140737488355328 by simp; omega)]
    unfold wantE
    by_cases hh : ((l.getD i default).Star == miraN && !(l.getD i default).Fainter) = true
    · rw [if_pos hh, if_pos hh]
    · rw [if_neg hh, if_neg hh]) (by simp [impl_chosen_impl_Estimate__impl_CurveOf_c1_l1]; rfl)]
  rfl

theorem mira_name : impl_IsName miraN = some true := by rw [impl_IsName_is]; congr 1

theorem CurveOf_is {l : List Estimate} (hl : l.length ≤ 12) (hg : goodE l = true) : ∃ c, impl_CurveOf l miraN = some (c, 0) ∧ CurveFor (seenN l) (seenN l).length c := by
  have hs12 : (seenN l).length ≤ 12 := Nat.le_trans (keptTo_len _ _ _) hl
  unfold impl_CurveOf
  rw [ValidEstimates_is (by omega), hg, mira_name, chosen_is (by omega)]
  have e : decide (l.length ≤ 100) = true := by simp; omega
  simp only [e, Bool.and_self, Option.bind_some, Bool.not_true, Bool.false_eq_true, if_false]
  obtain ⟨y, hy, hq⟩ := while_post (step := impl_CurveOf_l1 (seenN l))
    (fun s => ∃ i : Nat, s.2 = (i : Int) ∧ i ≤ (seenN l).length ∧ CurveFor (seenN l) i s.1 ∧ (i < (seenN l).length → 0 < s.1.length → (s.1.getD (s.1.length - 1) default).Time < ((seenN l).getD i default).Time))
    (fun c => CurveFor (seenN l) (seenN l).length c) (fun s => (seenN l).length - s.2.toNat) (by
    rintro ⟨out, ii⟩ ⟨i, rfl, hi, hc, hlast⟩
    simp only at hc hlast
    by_cases h : i < (seenN l).length
    · left
      obtain ⟨t0, t1, _, _⟩ := oneE_in (seen_one hg h)
      obtain ⟨i', mags, w, a1, a2, a3, a4, a5, a6, a7, a8⟩ := inner_is hg hs12 out ((seenN l).getD i default).Time ((seenN l).length - i) i [] (by omega) (by simp) (fun x hx => by simp at hx)
      have hii : i < i' := by
        rcases Nat.lt_or_ge i i' with c | c
        · exact c
        · have : i' = i := by omega
          subst this
          exact absurd rfl (a7 h)
      have hm1 := a8 hii
      simp only [List.length_nil] at hm1
      have hsum := sum_in mags a5
      obtain ⟨m, hm, m0, m1⟩ := mean_in (s := mags.sum) (n := (mags.length : Int)) (by omega) (by omega) hsum.1 hsum.2
      have hmean : impl_mean mags = some m := by
        unfold impl_mean impl_count_int64
        rw [sum_is (by omega) a5]
        simp only [Option.bind_some, hm]
      have hl1 := hc.len
      have hstep : impl_CurveOf_l1 (seenN l) (out, (i : Int)) = some (.inl (out ++ [⟨((seenN l).getD i default).Time, m⟩], (i' : Int))) := by
        simp only [impl_CurveOf_l1, ixOk_nat, h, decide_true, ck_true, Int.ofNat_lt, if_true, Int.toNat_natCast, w, Option.bind_some, hmean]
        rw [appOk_of (by simp; omega), ck_true]
      refine ⟨_, hstep, ⟨i', rfl, a2, ⟨goodP_app hc.good t0 t1 m0 m1 (fun h0 => hlast h h0), by simp; omega, fun j hj => ?_⟩, fun h1 _ => ?_⟩, by simp only [Int.toNat_natCast]; omega⟩
      · rcases Nat.lt_or_ge j i with c | c
        · obtain ⟨m', hm1', hm2⟩ := hc.has j c
          refine ⟨m', by simp; omega, ?_⟩
          rw [List.getD_eq_getElem?_getD, List.getElem?_append_left hm1', ← List.getD_eq_getElem?_getD]; exact hm2
        · refine ⟨out.length, by simp, ?_⟩
          rw [List.getD_eq_getElem?_getD, List.getElem?_append_right (Nat.le_refl _), Nat.sub_self, a6 j c hj]; rfl
      · have gx : ((out ++ [(⟨((seenN l).getD i default).Time, m⟩ : Point)]).getD ((out ++ [(⟨((seenN l).getD i default).Time, m⟩ : Point)]).length - 1) default).Time = ((seenN l).getD i default).Time := by
          rw [List.length_append, List.length_cons, List.length_nil, Nat.zero_add, Nat.add_sub_cancel, List.getD_eq_getElem?_getD, List.getElem?_append_right (Nat.le_refl _), Nat.sub_self]; rfl
        show ((out ++ [(⟨((seenN l).getD i default).Time, m⟩ : Point)]).getD ((out ++ [(⟨((seenN l).getD i default).Time, m⟩ : Point)]).length - 1) default).Time < _
        rw [gx]
        have h2 := seen_rise hg (show i ≤ i' by omega) h1
        have h3 := a7 h1
        omega
    · right
      obtain rfl : i = (seenN l).length := by omega
      exact ⟨out, by simp [impl_CurveOf_l1], hc⟩) (s := ([], 0)) ⟨0, rfl, by omega, ⟨rfl, by simp, fun j hj => by omega⟩, fun _ h => by simp at h⟩
  rw [hy]
  exact ⟨y, rfl, hq⟩

/-! ### The law -/

theorem goodP_rise {c : List Point} (hg : goodP c = true) : ∀ (d i : Nat), i + d < c.length → (c.getD i default).Time ≤ (c.getD (i + d) default).Time
  | 0, i, _ => Int.le_refl _
  | d + 1, i, h => by
    have h1 := goodP_rise hg d i (by omega)
    have h2 := (goodP_at hg (show i + (d + 1) < c.length from h)).2.2.2.2 (by omega)
    rw [show i + (d + 1) - 1 = i + d by omega] at h2
    omega

theorem adv_is {l : List Estimate} {c : List Point} (hcl : c.length ≤ 100) (hll : l.length ≤ 100) {i : Nat} (hi : i < l.length) {m : Nat} (hm : m < c.length) (hT : ¬ (c.getD m default).Time < (l.getD i default).Time) : ∀ (d a : Nat), a + d = m → (∀ k, k < a → (c.getD k default).Time < (l.getD i default).Time) →
    ∃ a' : Nat, whileE (laws_FnCurves_l2 l c (i : Int)) (a : Int) = some (a' : Int) ∧ a' ≤ m ∧ ¬ (c.getD a' default).Time < (l.getD i default).Time ∧ ∀ k, k < a' → (c.getD k default).Time < (l.getD i default).Time
  | d, a, hd, hk => by
    have ha : a < c.length := by omega
    by_cases h : (c.getD a default).Time < (l.getD i default).Time
    · match d, hd with
      | 0, hd =>
        have : a = m := by omega
        rw [this] at h; exact absurd h hT
      | d + 1, hd =>
        have hs : laws_FnCurves_l2 l c (i : Int) (a : Int) = some (.inl ((a + 1 : Nat) : Int)) := by
          simp only [laws_FnCurves_l2, ixOk_nat, ha, hi, decide_true, ck_true, Int.ofNat_lt, Int.toNat_natCast, wrap_nat1 (show a < 9223372036854775807 by omega), h, Bool.and_self, Bool.or_true, if_true, Bool.not_true, Bool.false_or]
        obtain ⟨a', w, r⟩ := adv_is hcl hll hi hm hT d (a + 1) (by omega) (fun k hk2 => by
          rcases Nat.lt_or_ge k a with q | q
          · exact hk k q
          · rw [show k = a by omega]; exact h)
        exact ⟨a', by rw [whileE_next hs]; exact w, r⟩
    · refine ⟨a, whileE_done ?_, by omega, h, hk⟩
      simp only [laws_FnCurves_l2, ixOk_nat, ha, hi, decide_true, ck_true, Int.ofNat_lt, Int.toNat_natCast, h, decide_false, Bool.and_false, Bool.or_true, Bool.false_eq_true, if_false, Bool.not_true, Bool.false_or]

theorem law_Curves {code : List UInt8} : laws_FnCurves code = some true := by
  unfold laws_FnCurves laws_a2Long
  simp only [Option.bind_some]
  by_cases hL : (decide (3000 < (code.length : Int)) || decide (3000 < (([] : List UInt8).length : Int))) = true
  · rw [if_pos hL]
  rw [if_neg hL]
  simp only [Bool.or_eq_true, decide_eq_true_eq, not_or] at hL
  obtain ⟨l, e1, hg, hl⟩ := A2Estimates_is (c := code) (by omega)
  obtain ⟨c, e2, hc⟩ := CurveOf_is hl hg
  have hs : (seenN l).length ≤ l.length := keptTo_len _ _ _
  have hcl := hc.len
  have e3 : spec_ValidCurve c = some true := by
    unfold spec_ValidCurve
    rw [l08Ok_is (by omega), hc.good]
    have : decide (c.length ≤ 100) = true := by simp; omega
    rw [this]; rfl
  rw [e1]
  simp only [Option.bind_some]
  rw [show ([109, 105, 114, 97] : List UInt8) = miraN from rfl, e2]
  simp only [Option.bind_some, e3, Option.isSome_some, Option.getD_some, beq_self_eq_true, Bool.not_true, Bool.not_false, Bool.false_or, Bool.or_true, ck_true, Bool.or_self, Bool.false_eq_true, if_false]
  obtain ⟨y, hy, hq⟩ := while_post (step := laws_FnCurves_l1 l c)
    (fun s => ∃ a i : Nat, s = ((a : Int), (i : Int)) ∧ i ≤ l.length ∧ ∀ k, k < a → ∀ j, i ≤ j → j < l.length → (c.getD k default).Time < (l.getD j default).Time ∨ wantE (l.getD j default) = false ∨ (c.getD k default).Time ≤ (l.getD j default).Time ∧ False)
    (fun y => y = .inl ()) (fun s => l.length - s.2.toNat) (by
    rintro _ ⟨a, i, rfl, hi, hk⟩
    by_cases h : i < l.length
    · left
      have e0 : ((!(((l.getD i default).Star) == ([109, 105, 114, 97] : List UInt8))) || ((l.getD i default).Fainter)) = !wantE (l.getD i default) := by
        unfold wantE miraN
        cases ((l.getD i default).Star == ([109, 105, 114, 97] : List UInt8)) <;> cases (l.getD i default).Fainter <;> rfl
      simp only [laws_FnCurves_l1, ixOk_nat, h, decide_true, ck_true, Int.ofNat_lt, if_true, Int.toNat_natCast, wrap_nat1 (show i < 9223372036854775807 by omega), e0]
      cases hw : wantE (l.getD i default)
      · simp only [Bool.not_false, if_true]
        exact ⟨_, rfl, ⟨a, i + 1, rfl, by omega, fun k h1 j h2 h3 => hk k h1 j (by omega) h3⟩, by simp only [Int.toNat_natCast]; omega⟩
      · obtain ⟨j, hj⟩ : ∃ j, j < (seenN l).length ∧ (seenN l).getD j default = l.getD i default := by
          have hmem : l.getD i default ∈ seenN l := seen_mem.2 ⟨i, h, hw, rfl⟩
          obtain ⟨j, hj, e⟩ := List.getElem_of_mem hmem
          exact ⟨j, hj, by rw [getD_lt hj]; exact e⟩
        obtain ⟨m, hm, hmT⟩ := hc.has j hj.1
        rw [hj.2] at hmT
        have hpre : ∀ k, k < a → (c.getD k default).Time < (l.getD i default).Time := fun k h1 => by
          rcases hk k h1 i (Nat.le_refl _) h with q | q | q
          · exact q
          · rw [hw] at q; cases q
          · exact q.2.elim
        have ham : a ≤ m := by
          rcases Nat.lt_or_ge m a with q | q
          · have := hpre m q; omega
          · exact q
        obtain ⟨a', w, b1, b2, b3⟩ := adv_is (l := l) (c := c) (by omega) (by omega) h hm (by omega) (m - a) a (by omega) hpre
        have hT : (c.getD a' default).Time = (l.getD i default).Time := by
          have := goodP_rise hc.good (m - a') a' (by omega)
          rw [show a' + (m - a') = m by omega] at this
          omega
        have c1 : decide ((c.length : Int) ≤ (a' : Int)) = false := decide_eq_false (by omega)
        have c2 : ((c.getD a' default).Time == (l.getD i default).Time) = true := by simpa using hT
        have c3 : ixOk (a' : Int) c.length = true := ixOk_of (by omega) (by omega)
        simp only [Bool.not_true, Bool.false_eq_true, if_false, w, Option.bind_some, c1, c3, Bool.not_false, Bool.or_true, ck_true, Int.toNat_natCast, c2, Bool.or_self]
        refine ⟨_, rfl, ⟨a', i + 1, rfl, by omega, fun k h1 j' h2 h3 => .inl ?_⟩, by simp only [Int.toNat_natCast]; omega⟩
        have := b3 k h1
        have h4 := times_rise hg (j' - i) i (by omega)
        rw [show i + (j' - i) = j' by omega] at h4
        omega
    · right
      exact ⟨.inl (), by simp [laws_FnCurves_l1, h], rfl⟩) (s := ((0 : Int), (0 : Int))) ⟨0, 0, rfl, by omega, fun k hk => by omega⟩
  rw [hy, hq]
  simp only [Option.bind_some]
  congr 1
  exact decide_eq_true (by omega)

end Go.Proofs.Ytgbibhhblimfiab
