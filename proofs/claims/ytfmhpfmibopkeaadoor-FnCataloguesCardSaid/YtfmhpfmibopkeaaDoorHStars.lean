/- What typed forms say: drawn stars are valid. No condition. -/
import Derived.Test.YtfmhpfmibopkeaaDoorHNameI
import Derived.Test.YtfmhpfmibopkeaaDoorHDrawA
import Derived.Test.YtfmhpfmibopkeaaDoorHDrawT
import Derived.Test.YtfmhpfmibopkeaaDoorHDrawO
namespace Go.Proofs.YtfmhpfmibopkeaaDoor
open Go Go.RowKit
set_option linter.unusedSimpArgs false
set_option linter.unusedVariables false

def oneS (x : Star) : Bool := (((nameB x.Name && ((decide (0 ≤ x.Ascend) && decide (x.Ascend ≤ 86399)) && (decide (-324000 ≤ x.Decl) && decide (x.Decl ≤ 324000)))) && (decide (-2000 ≤ x.Bright) && decide (x.Bright ≤ 20000))) && (decide (-2000 ≤ x.Faint) && decide (x.Faint ≤ 20000))) && decide (x.Bright ≤ x.Faint)

theorem isStar_is (x : Star) : impl_isStar x = some (oneS x) := by
  unfold impl_isStar oneS
  simp only [impl_ValidMag, impl_in_is, impl_IsName_is, Option.bind_some, Option.isSome_some, Option.getD_some, Bool.or_true, ck_true]

theorem oneS_in {x : Star} (h : oneS x = true) : nameB x.Name = true ∧ 0 ≤ x.Ascend ∧ x.Ascend ≤ 86399 ∧ -324000 ≤ x.Decl ∧ x.Decl ≤ 324000 ∧ -2000 ≤ x.Bright ∧ x.Faint ≤ 20000 ∧ x.Bright ≤ x.Faint := by
  unfold oneS at h
  simp only [Bool.and_eq_true, decide_eq_true_eq] at h
  obtain ⟨⟨⟨⟨h1, ⟨h2, h3⟩, h4, h5⟩, h6, h7⟩, h8, h9⟩, h10⟩ := h
  exact ⟨h1, h2, h3, h4, h5, h6, h9, h10⟩

theorem oneS_mk {n : List UInt8} {a d b f : Int} (h1 : nameB n = true) (h2 : 0 ≤ a) (h3 : a ≤ 86399) (h4 : -324000 ≤ d) (h5 : d ≤ 324000) (h6 : -2000 ≤ b) (h7 : f ≤ 20000) (h8 : b ≤ f) : oneS ⟨n, a, d, b, f⟩ = true := by
  unfold oneS
  simp only [h1, Bool.true_and, Bool.and_eq_true, decide_eq_true_eq]
  exact ⟨⟨⟨⟨⟨h2, h3⟩, h4, h5⟩, h6, by omega⟩, by omega, h7⟩, h8⟩

theorem l02Draw_is {m : Nat} {s : L00Src} (h : SrcN (m + 4) s) : ∃ v s', spec_l02Draw s = some (v, s') ∧ -2000 ≤ v ∧ v ≤ 20000 ∧ SrcN m s' := by
  unfold spec_l02Draw
  obtain ⟨b, s1, e1, h1⟩ := one_is (m := m + 2) h (n := 8) (by omega)
  simp only [e1, Option.bind_some]
  cases b
  · obtain ⟨v, s2, e2, a2, b2, _, h2⟩ := pick_is h1 (n := 60) (by omega)
    have := b2 (by omega)
    simp only [Bool.false_eq_true, if_false, e2, Option.bind_some, wrap_i64 (n := 50 * v) (by omega) (by omega), wrap_i64 (n := 8000 + 50 * v) (by omega) (by omega)]
    exact ⟨_, _, rfl, by omega, by omega, h2⟩
  · obtain ⟨v, s2, e2, a2, b2, _, h2⟩ := pick_is h1 (n := 22001) (by omega)
    have := b2 (by omega)
    simp only [if_true, e2, Option.bind_some, wrap_i64 (n := v + (-2000)) (by omega) (by omega)]
    exact ⟨_, _, rfl, by omega, by omega, h2⟩

/-- The magnitudes of a drawn star. -/
theorem mags_is {m : Nat} {s : L00Src} (h : SrcN (m + 6) s) {α : Type} (k : Int → Int → L00Src → α) : ∃ b f s', ((spec_l02Draw s).bind fun y_9 => (spec_l00Src_pick y_9.2 40).bind fun y_10 =>
      (spec_l00Min 20000 (IntKind.i64.wrap (y_9.1 + (IntKind.i64.wrap (100 * y_10.1))))).bind fun y_11 => some (k y_9.1 y_11 y_10.2)) = some (k b f s') ∧ -2000 ≤ b ∧ f ≤ 20000 ∧ b ≤ f ∧ SrcN m s' := by
  obtain ⟨b, s1, e1, a1, b1, h1⟩ := l02Draw_is (m := m + 2) h
  obtain ⟨v, s2, e2, a2, b2, _, h2⟩ := pick_is h1 (n := 40) (by omega)
  have := b2 (by omega)
  simp only [e1, e2, Option.bind_some, wrap_i64 (n := 100 * v) (by omega) (by omega), wrap_i64 (n := b + 100 * v) (by omega) (by omega), spec_l00Min]
  by_cases c : 20000 < b + 100 * v
  · simp only [c, decide_true, if_true, Option.bind_some]
    exact ⟨b, 20000, s2, rfl, a1, by omega, by omega, h2⟩
  · simp only [c, decide_false, Bool.false_eq_true, if_false, Option.bind_some]
    exact ⟨b, b + 100 * v, s2, rfl, a1, by omega, by omega, h2⟩

/-- The place and the magnitudes of a drawn star whose ascension is drawn. -/
theorem rest_is {m : Nat} {s : L00Src} (h : SrcN (m + 12) s) {n : List UInt8} (hn : nameB n = true) {a : Int} (a0 : 0 ≤ a) (a1 : a ≤ 86399) : ∃ x s', ((spec_l00Src_pick s 648001).bind fun y_5 => (spec_l00Src_one y_5.2 3).bind fun y_6 =>
    if y_6.1 then
      (spec_l00Src_pick y_6.2 9).bind fun y_8 =>
      (spec_l02Draw y_8.2).bind fun y_9 =>
      (spec_l00Src_pick y_9.2 40).bind fun y_10 =>
      (spec_l00Min 20000 (IntKind.i64.wrap (y_9.1 + (IntKind.i64.wrap (100 * y_10.1))))).bind fun y_11 =>
      some ((Star.mk n a (IntKind.i64.wrap (3600 * (IntKind.i64.wrap (y_8.1 - 4)))) y_9.1 y_11), y_10.2)
    else
      (spec_l02Draw y_6.2).bind fun y_12 =>
      (spec_l00Src_pick y_12.2 40).bind fun y_13 =>
      (spec_l00Min 20000 (IntKind.i64.wrap (y_12.1 + (IntKind.i64.wrap (100 * y_13.1))))).bind fun y_14 =>
      some ((Star.mk n a (IntKind.i64.wrap (y_5.1 - 324000)) y_12.1 y_14), y_13.2)) = some (x, s') ∧ x.Name = n ∧ oneS x = true ∧ SrcN m s' := by
  obtain ⟨v, s1, e1, p1, q1, _, h1⟩ := pick_is (m := m + 10) h (n := 648001) (by omega)
  have := q1 (by omega)
  obtain ⟨c, s2, e2, h2⟩ := one_is (m := m + 8) h1 (n := 3) (by omega)
  simp only [e1, e2, Option.bind_some]
  cases c
  · simp only [Bool.false_eq_true, if_false]
    rw [wrap_i64 (n := v - 324000) (by omega) (by omega)]
    obtain ⟨b, f, s', e, g1, g2, g3, h'⟩ := mags_is (m := m + 2) h2 (fun b f s' => ((⟨n, a, v - 324000, b, f⟩ : Star), s'))
    exact ⟨_, _, e, rfl, oneS_mk hn a0 a1 (by omega) (by omega) g1 g2 g3, h'.le (by omega)⟩
  · obtain ⟨u, s3, e3, p3, q3, _, h3⟩ := pick_is (m := m + 6) h2 (n := 9) (by omega)
    have := q3 (by omega)
    simp only [if_true, e3, Option.bind_some]
    rw [wrap_i64 (n := u - 4) (by omega) (by omega), wrap_i64 (n := 3600 * (u - 4)) (by omega) (by omega)]
    obtain ⟨b, f, s', e, g1, g2, g3, h'⟩ := mags_is h3 (fun b f s' => ((⟨n, a, 3600 * (u - 4), b, f⟩ : Star), s'))
    exact ⟨_, _, e, rfl, oneS_mk hn a0 a1 (by omega) (by omega) g1 g2 g3, h'⟩

theorem l04New_is {m : Nat} {s : L00Src} (h : SrcN (m + 18) s) {n : List UInt8} (hn : nameB n = true) : ∃ x s', spec_l04New s n = some (x, s') ∧ x.Name = n ∧ oneS x = true ∧ SrcN m s' := by
  unfold spec_l04New
  obtain ⟨v, s1, e1, p1, q1, _, h1⟩ := pick_is (m := m + 16) h (n := 86400) (by omega)
  have := q1 (by omega)
  obtain ⟨c, s2, e2, h2⟩ := one_is (m := m + 14) h1 (n := 3) (by omega)
  simp only [e1, e2, Option.bind_some]
  cases c
  · simp only [Bool.false_eq_true, if_false]
    obtain ⟨x, s', e, hx, ho, h'⟩ := rest_is (m := m + 2) h2 hn p1 (by omega)
    exact ⟨x, s', e, hx, ho, h'.le (by omega)⟩
  · obtain ⟨u, s3, e3, hu, h3⟩ := among_is (m := m + 12) h2 (l := [0, 10, 100, 86300, 86399]) (by decide) (by decide)
    have hu' : 0 ≤ u ∧ u ≤ 86399 := by simp at hu; omega
    simp only [if_true, e3, Option.bind_some]
    exact rest_is h3 hn hu'.1 hu'.2

/-! ### Lists of stars -/

def okS (l : List Star) (i : Nat) : Bool := oneS (l.getD i default) && !(decide (0 < i) && !Op.bytesLess (l.getD (i - 1) default).Name (l.getD i default).Name)
def goodS (l : List Star) : Bool := (List.range l.length).all (okS l)

theorem ValidStars_is {l : List Star} (hl : l.length ≤ 1099511627776) : impl_ValidStars l = some (goodS l && decide (l.length ≤ 60)) := by
  unfold impl_ValidStars impl_rising_impl_Star__impl_isStar__impl_starName
  by_cases h : 60 < (l.length : Int)
  · have e : decide (l.length ≤ 60) = false := by simp; omega
    simp [h, e]
  · have e : decide (l.length ≤ 60) = true := by simp; omega
    simp only [h, decide_false, Bool.false_eq_true, if_false]
    rw [while_all (step := impl_rising_impl_Star__impl_isStar__impl_starName_l1 l l (l.length : Int)) (okS l) l.length (goodS l) (yes := .inl ()) (no := .inr false) (by unfold goodS; simp) (fun i hi => by
      simp only [impl_rising_impl_Star__impl_isStar__impl_starName_l1, impl_starName, ixOk_nat, hi, decide_true, ck_true, Int.ofNat_lt, if_true, Int.toNat_natCast, wrap_nat1 (show i < 9223372036854775807 by omega), isStar_is, Option.bind_some, Option.isSome_some, Option.getD_some, Bool.or_true]
      unfold okS
      by_cases h0 : 0 < i
      · have e0 : decide ((0 : Int) < (i : Int)) = true := by simpa using h0
        have e1 : decide (0 < i) = true := by simpa using h0
        have w1 : IntKind.i64.wrap ((i : Int) - 1) = ((i - 1 : Nat) : Int) := by rw [wrap_i64 (by omega) (by omega)]; omega
        have ok1 : ixOk ((i - 1 : Nat) : Int) l.length = true := by rw [ixOk_nat]; simp; omega
        simp only [e0, e1, w1, ok1, Bool.or_true, ck_true, Bool.true_and, Int.toNat_natCast]
        generalize oneS (l.getD i default) = A
        generalize Op.bytesLess (l.getD (i - 1) default).Name (l.getD i default).Name = B
        cases A <;> cases B <;> rfl
      · have e0 : decide ((0 : Int) < (i : Int)) = false := by simpa using h0
        have e1 : decide (0 < i) = false := by simpa using h0
        simp only [e0, e1, Bool.false_and, Bool.and_false, Bool.not_false, Bool.true_or, ck_true, Bool.or_false, Bool.and_true]
        generalize oneS (l.getD i default) = A
        cases A <;> rfl) (by simp [impl_rising_impl_Star__impl_isStar__impl_starName_l1])]
    simp only [Option.bind_some, e]
    cases goodS l <;> rfl

theorem goodS_at {l : List Star} (h : goodS l = true) {i : Nat} (hi : i < l.length) : oneS (l.getD i default) = true := by
  unfold goodS at h
  have := all_range' h hi
  unfold okS at this
  simp only [Bool.and_eq_true] at this
  exact this.1

theorem goodS_app {l : List Star} {x : Star} (h : goodS l = true) (hx : oneS x = true) (hb : 0 < l.length → Op.bytesLess (l.getD (l.length - 1) default).Name x.Name = true) : goodS (l ++ [x]) = true := by
  unfold goodS
  rw [List.all_eq_true]
  intro i hi
  have hi' : i < l.length + 1 := by simpa using hi
  have ga : ∀ j, j < l.length → (l ++ [x]).getD j default = l.getD j default := fun j hj => by
    rw [List.getD_eq_getElem?_getD, List.getD_eq_getElem?_getD, List.getElem?_append_left hj]
  have gx : (l ++ [x]).getD l.length default = x := by
    rw [List.getD_eq_getElem?_getD, List.getElem?_append_right (Nat.le_refl _), Nat.sub_self]; rfl
  rcases Nat.lt_or_ge i l.length with c | c
  · unfold goodS at h
    have := all_range' h c
    unfold okS at this ⊢
    rw [ga i c, ga (i - 1) (by omega)]
    exact this
  · obtain rfl : i = l.length := by omega
    unfold okS
    rw [gx, hx, Bool.true_and]
    by_cases h0 : 0 < l.length
    · rw [ga (l.length - 1) (by omega), hb h0]; simp
    · have : decide (0 < l.length) = false := by simpa using h0
      rw [this]; rfl

def starNames : List (List UInt8) := [[98, 101, 116, 97, 45, 108, 121, 114], [100, 101, 108, 45, 99, 101, 112], [109, 105, 114, 97], [114, 45, 99, 114, 98], [114, 114, 45, 108, 121, 114], [115, 115, 45, 99, 121, 103]]
theorem Names_is : spec_l04Names = some starNames := id rfl
theorem names_good : ∀ i : Fin 6, nameB (starNames.getD i.val default) = true := by decide +kernel
theorem names_rise : ∀ i j : Fin 6, i.val < j.val → Op.bytesLess (starNames.getD i.val default) (starNames.getD j.val default) = true := by decide +kernel

theorem A2Stars_is {c : List UInt8} (hc : c.length ≤ 1099511627776) : ∃ l, spec_A2Stars c = some l ∧ goodS l = true ∧ l.length ≤ 6 := by
  unfold spec_A2Stars spec_l04Draw
  rw [From_is, Names_is]
  simp only [Option.bind_some]
  obtain ⟨y, hy, hq⟩ := while_post (step := spec_l04Draw_l1 starNames)
    (fun x => ∃ k : Nat, x.2.2 = (k : Int) ∧ k ≤ 6 ∧ SrcN (1000 - 30 * k) x.1 ∧ x.2.1.length ≤ k ∧ goodS x.2.1 = true ∧ (0 < x.2.1.length → ∃ j, j < k ∧ (x.2.1.getD (x.2.1.length - 1) default).Name = starNames.getD j default))
    (fun y => goodS y.2 = true ∧ y.2.length ≤ 6) (fun x => 6 - x.2.2.toNat) (by
    rintro ⟨s, out, kk⟩ ⟨k, rfl, hk, hs, hl, hg, hlast⟩
    simp only at hs hl hg hlast
    by_cases c : k < 6
    · left
      have c' : decide ((k : Int) < (starNames.length : Int)) = true := decide_eq_true (by show (k : Int) < 6; omega)
      obtain ⟨b, s1, e1, h1⟩ := one_is (m := 1000 - 30 * k - 2) (hs.le (by omega)) (n := 2) (by omega)
      have w : IntKind.i64.wrap ((k : Int) + 1) = ((k + 1 : Nat) : Int) := wrap_nat1 (by omega)
      simp only [spec_l04Draw_l1, c', if_true, e1, Option.bind_some, w]
      cases b
      · simp only [Bool.false_eq_true, if_false]
        refine ⟨_, rfl, ⟨k + 1, rfl, by omega, h1.le (by omega), by show out.length ≤ k + 1; omega, hg, fun h0 => ?_⟩, by simp only [Int.toNat_natCast]; omega⟩
        obtain ⟨j, hj, e⟩ := hlast h0
        exact ⟨j, by omega, e⟩
      · have hn := names_good ⟨k, c⟩
        obtain ⟨x, s2, e2, hx, ho, h2⟩ := l04New_is (m := 1000 - 30 * (k + 1)) (h1.le (by omega)) hn
        simp only at e2 hx
        simp only [if_true, Int.toNat_natCast, e2, Option.bind_some]
        rw [ixOk_of (n := starNames.length) (i := (k : Int)) (by omega) (by show (k : Int) < 6; omega), ck_true, appOk_of (by simp; omega), ck_true]
        refine ⟨_, rfl, ⟨k + 1, rfl, by omega, h2, by simp; omega, goodS_app hg ho (fun h0 => ?_), fun _ => ⟨k, by omega, ?_⟩⟩, by simp only [Int.toNat_natCast]; omega⟩
        · obtain ⟨j, hj, e⟩ := hlast h0
          rw [e, hx]
          exact names_rise ⟨j, by omega⟩ ⟨k, c⟩ hj
        · have gx : (out ++ [x]).getD ((out ++ [x]).length - 1) default = x := by
            rw [List.length_append, List.length_cons, List.length_nil, Nat.zero_add, Nat.add_sub_cancel, List.getD_eq_getElem?_getD, List.getElem?_append_right (Nat.le_refl _), Nat.sub_self]; rfl
          show ((out ++ [x]).getD ((out ++ [x]).length - 1) default).Name = _
          rw [gx, hx]
    · right
      have c' : decide ((k : Int) < (starNames.length : Int)) = false := decide_eq_false (by show ¬ (k : Int) < 6; omega)
      exact ⟨(s, out), by simp only [spec_l04Draw_l1, c', Bool.false_eq_true, if_false], hg, by show out.length ≤ 6; omega⟩) (s := (⟨c, 0, 0⟩, [], 0)) ⟨0, rfl, by omega, (srcN_from hc).le (by omega), by simp, rfl, fun h => by simp at h⟩
  rw [hy]
  exact ⟨y.2, rfl, hq.1, hq.2⟩

theorem A2Star_is {c : List UInt8} (hc : c.length ≤ 1099511627776) : ∃ x, spec_A2Star c = some x ∧ oneS x = true := by
  unfold spec_A2Star
  rw [From_is, Names_is]
  obtain ⟨n, s1, e1, hn, h1⟩ := text_is (m := 100) ((srcN_from hc).le (by omega)) (l := starNames) (by decide) (by decide)
  simp only [Option.bind_some, e1]
  have hgood : nameB n = true := by
    obtain ⟨i, hi, rfl⟩ := List.getElem_of_mem hn
    have := names_good ⟨i, hi⟩
    rwa [getD_lt hi] at this
  obtain ⟨x, s2, e2, hx, ho, h2⟩ := l04New_is (m := 0) (h1.le (by omega)) hgood
  rw [e2]
  exact ⟨x, rfl, ho⟩

end Go.Proofs.YtfmhpfmibopkeaaDoor
