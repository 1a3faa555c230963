/- Plain lemmas, several texts in one. No condition. -/
import Derived.Test.YtbobhejdijcofaaGreatDoorHPA
/- What typed forms say: choices drawn from bytes. No condition. -/
namespace Go.Proofs.YtbobhejdijcofaaGreatDoor
open Go Go.RowKit
set_option linter.unusedSimpArgs false
set_option linter.unusedVariables false

def SrcN (m : Nat) (s : L00Src) : Prop := 0 ≤ s.at_ ∧ s.at_ + m ≤ 1000000000000 ∧ s.code_.length ≤ 1099511627776

theorem SrcN.le {m n : Nat} {s : L00Src} (h : SrcN m s) (hn : n ≤ m) : SrcN n s := ⟨h.1, by have := h.2.1; omega, h.2.2⟩

theorem From_is (c : List UInt8) : spec_l00From c = some ⟨c, 0, 0⟩ := id rfl

theorem srcN_from {c : List UInt8} (h : c.length ≤ 1099511627776) : SrcN 900000000000 ⟨c, 0, 0⟩ := ⟨by show (0 : Int) ≤ 0; omega, by show (0 : Int) + _ ≤ _; omega, h⟩

theorem and255 (n : Int) : 0 ≤ IntKind.u64.wrap (BitVec.ofInt (IntKind.bits .u64) n &&& BitVec.ofInt (IntKind.bits .u64) 255).toNat ∧ IntKind.u64.wrap (BitVec.ofInt (IntKind.bits .u64) n &&& BitVec.ofInt (IntKind.bits .u64) 255).toNat ≤ 255 := by
  have h : (BitVec.ofInt (IntKind.bits .u64) n &&& BitVec.ofInt (IntKind.bits .u64) 255).toNat ≤ 255 := by
    rw [BitVec.toNat_and]
    refine Nat.le_trans Nat.and_le_right ?_
    decide
  generalize (BitVec.ofInt (IntKind.bits .u64) n &&& BitVec.ofInt (IntKind.bits .u64) 255).toNat = q at h ⊢
  unfold IntKind.wrap IntKind.bits
  simp [IntKind.signed]
  omega

theorem next_is {m : Nat} {s : L00Src} (h : SrcN (m + 1) s) : ∃ v s', spec_l00Src_next s = some (v, s') ∧ 0 ≤ v ∧ v ≤ 255 ∧ SrcN m s' := by
  obtain ⟨c, at_, seed⟩ := s
  obtain ⟨h1, h2, h3⟩ := h
  simp only at h1 h2 h3
  have w : IntKind.i64.wrap (at_ + 1) = at_ + 1 := wrap_i64 (by omega) (by omega)
  have hn : ∀ z, SrcN m ⟨c, at_ + 1, z⟩ := fun z => ⟨by show 0 ≤ at_ + 1; omega, by show at_ + 1 + (m : Int) ≤ _; omega, h3⟩
  have w255 : ∀ n, IntKind.i64.wrap (IntKind.u64.wrap (BitVec.ofInt (IntKind.bits .u64) n &&& BitVec.ofInt (IntKind.bits .u64) 255).toNat) = IntKind.u64.wrap (BitVec.ofInt (IntKind.bits .u64) n &&& BitVec.ofInt (IntKind.bits .u64) 255).toNat := fun n => by
    have := and255 n
    exact wrap_i64 (by omega) (by omega)
  unfold spec_l00Src_next
  simp only [w]
  by_cases c1 : at_ < (c.length : Int)
  · have b := u8_lt (c.getD at_.toNat default)
    have c2 : at_ + 1 ≤ (c.length : Int) := by omega
    rw [ixOk_of h1 (by omega)]
    simp only [c1, c2, decide_true, if_true, ck_true]
    exact ⟨_, _, rfl, by omega, by omega, hn _⟩
  · simp only [c1, decide_false, Bool.false_eq_true, if_false]
    have c2 : ¬ at_ + 1 ≤ (c.length : Int) := by omega
    simp only [c2, decide_false, Bool.false_eq_true, if_false]
    rw [shOk_of (by omega), ck_true, w255]
    exact ⟨_, _, rfl, (and255 _).1, (and255 _).2, hn _⟩

theorem pick_is {m : Nat} {s : L00Src} (h : SrcN (m + 2) s) {n : Int} (hn : n ≤ 9223372036854775807) : ∃ v s', spec_l00Src_pick s n = some (v, s') ∧ 0 ≤ v ∧ (1 ≤ n → v < n) ∧ (n ≤ 1 → v = 0) ∧ SrcN m s' := by
  unfold spec_l00Src_pick
  by_cases c : n ≤ 1
  · simp only [c, decide_true, if_true]
    exact ⟨0, s, rfl, by omega, by omega, fun _ => rfl, h.le (by omega)⟩
  · obtain ⟨v1, s1, e1, a1, b1, h1⟩ := next_is h
    obtain ⟨v2, s2, e2, a2, b2, h2⟩ := next_is h1
    simp only [c, decide_false, Bool.false_eq_true, if_false, e1, Option.bind_some]
    by_cases c2 : 200 < n
    · have w1 : IntKind.i64.wrap (v1 * 256) = v1 * 256 := wrap_i64 (by omega) (by omega)
      have w2 : IntKind.i64.wrap (v1 * 256 + v2) = v1 * 256 + v2 := wrap_i64 (by omega) (by omega)
      simp only [c2, decide_true, if_true, e2, Option.bind_some, nz_of (show n ≠ 0 by omega), ck_true, w1, w2, Int.tmod_eq_emod_of_nonneg (show 0 ≤ v1 * 256 + v2 by omega)]
      exact ⟨_, _, rfl, Int.emod_nonneg _ (by omega), fun _ => Int.emod_lt_of_pos _ (by omega), fun hc => hc.elim, h2⟩
    · simp only [c2, decide_false, Bool.false_eq_true, if_false, nz_of (show n ≠ 0 by omega), ck_true, Int.tmod_eq_emod_of_nonneg a1]
      exact ⟨_, _, rfl, Int.emod_nonneg _ (by omega), fun _ => Int.emod_lt_of_pos _ (by omega), fun hc => hc.elim, h1.le (by omega)⟩

end Go.Proofs.YtbobhejdijcofaaGreatDoor

/- What typed forms say: one of some numbers. No condition. -/
namespace Go.Proofs.YtbobhejdijcofaaGreatDoor
open Go Go.RowKit
set_option linter.unusedSimpArgs false
set_option linter.unusedVariables false

theorem among_is {m : Nat} {s : L00Src} (h : SrcN (m + 2) s) {l : List Int} (h1 : 1 ≤ l.length) (h2 : l.length ≤ 1000) : ∃ v s', spec_l00Src_among s l = some (v, s') ∧ v ∈ l ∧ SrcN m s' := by
  obtain ⟨v, s', e, a, b, _, h'⟩ := pick_is h (n := (l.length : Int)) (by omega)
  have := b (by omega)
  unfold spec_l00Src_among
  rw [e]
  simp only [Option.bind_some]
  rw [ixOk_of a (by omega), ck_true]
  exact ⟨_, s', rfl, getD_mem (by omega) _, h'⟩

end Go.Proofs.YtbobhejdijcofaaGreatDoor

/- What typed forms say: one of the drawn. No condition. -/
namespace Go.Proofs.YtbobhejdijcofaaGreatDoor
open Go Go.RowKit
set_option linter.unusedSimpArgs false
set_option linter.unusedVariables false

theorem one_is {m : Nat} {s : L00Src} (h : SrcN (m + 2) s) {n : Int} (hn : n ≤ 9223372036854775807) : ∃ v s', spec_l00Src_one s n = some (v, s') ∧ SrcN m s' := by
  obtain ⟨v, s', e, _, _, _, h'⟩ := pick_is h hn
  exact ⟨v == 0, s', by unfold spec_l00Src_one; rw [e]; rfl, h'⟩

end Go.Proofs.YtbobhejdijcofaaGreatDoor

/- What typed forms say: one of some texts. No condition. -/
namespace Go.Proofs.YtbobhejdijcofaaGreatDoor
open Go Go.RowKit
set_option linter.unusedSimpArgs false
set_option linter.unusedVariables false

theorem text_is {m : Nat} {s : L00Src} (h : SrcN (m + 2) s) {l : List (List UInt8)} (h1 : 1 ≤ l.length) (h2 : l.length ≤ 1000) : ∃ v s', spec_l00Src_text s l = some (v, s') ∧ v ∈ l ∧ SrcN m s' := by
  obtain ⟨v, s', e, a, b, _, h'⟩ := pick_is h (n := (l.length : Int)) (by omega)
  have := b (by omega)
  unfold spec_l00Src_text
  rw [e]
  simp only [Option.bind_some]
  rw [ixOk_of a (by omega), ck_true]
  exact ⟨_, s', rfl, getD_mem (by omega) _, h'⟩

end Go.Proofs.YtbobhejdijcofaaGreatDoor

/- What typed forms say: drawn estimates. No condition. -/
namespace Go.Proofs.YtbobhejdijcofaaGreatDoor
open Go Go.RowKit
set_option linter.unusedSimpArgs false
set_option linter.unusedVariables false

/-! ### Drawn estimates are valid -/

def eqE (a b : Estimate) : Bool := !beforeE a b && !beforeE b a

theorem l06Find_is {l : List Estimate} (hl : l.length ≤ 1099511627776) (e : Estimate) : spec_l06Find l e = some (match (List.range l.length).find? (fun i => eqE (l.getD i default) e) with | some j => (j : Int) | none => -1) := by
  unfold spec_l06Find
  rw [while_find (step := spec_l06Find_l1 l e) (fun i => eqE (l.getD i default) e) (fun j => (j : Int)) l.length
    (fun i hi => by
      simp only [spec_l06Find_l1, ixOk_nat, hi, decide_true, ck_true, Int.ofNat_lt, if_true, Int.toNat_natCast, wrap_nat1 (show i < 9223372036854775807 by omega), Before_is, Option.bind_some, Option.isSome_some, Option.getD_some, Bool.or_true]
      by_cases hh : eqE (l.getD i default) e = true
      · have hh2 : (!beforeE (l.getD i default) e && !beforeE e (l.getD i default)) = true := hh
        rw [if_pos hh, if_pos hh2]
      · have hh2 : ¬ (!beforeE (l.getD i default) e && !beforeE e (l.getD i default)) = true := hh
        rw [if_neg hh, if_neg hh2])
    (by simp [spec_l06Find_l1])]
  cases (List.range l.length).find? (fun i => eqE (l.getD i default) e) <;> rfl

theorem l06Put_loop {l : List Estimate} (hl : l.length ≤ 1000) (e : Estimate) : ∀ k : Nat, k ≤ l.length → (k < l.length → beforeE e (l.getD k default) = true) →
    ∃ k' : Nat, k' ≤ l.length ∧ whileE (spec_l06Put_l1 l e) (k : Int) = some (k' : Int) ∧ (k' < l.length → beforeE e (l.getD k' default) = true) ∧ (0 < k' → beforeE e (l.getD (k' - 1) default) = false)
  | 0, hk, hb => ⟨0, hk, whileE_done (by simp [spec_l06Put_l1, ck_true]), hb, fun h => by omega⟩
  | k + 1, hk, hb => by
    have e0 : decide ((0 : Int) < ((k + 1 : Nat) : Int)) = true := decide_eq_true (by omega)
    have w1 : IntKind.i64.wrap (((k + 1 : Nat) : Int) - 1) = (k : Int) := by rw [wrap_i64 (by omega) (by omega)]; omega
    have ok1 : ixOk (k : Int) l.length = true := by rw [ixOk_nat]; simp; omega
    cases hbe : beforeE e (l.getD k default)
    · refine ⟨k + 1, hk, whileE_done ?_, hb, fun _ => by simpa using hbe⟩
      simp only [spec_l06Put_l1, e0, w1, ok1, Before_is, Int.toNat_natCast, hbe, Option.isSome_some, Option.getD_some, Bool.not_true, Bool.false_or, Bool.or_true, ck_true, Bool.and_false, Bool.false_eq_true, if_false]
    · rw [whileE_next (s' := (k : Int)) (by
        simp only [spec_l06Put_l1, e0, w1, ok1, Before_is, Int.toNat_natCast, hbe, Option.isSome_some, Option.getD_some, Bool.not_true, Bool.false_or, Bool.or_true, ck_true, Bool.and_true, if_true])]
      exact l06Put_loop hl e k (by omega) (fun _ => hbe)

theorem put_getD (l : List Estimate) (e : Estimate) {k : Nat} (hk : k ≤ l.length) (i : Nat) : (((l.take k) ++ [e]) ++ l.drop k).getD i default = if i < k then l.getD i default else if i = k then e else l.getD (i - 1) default := by
  have hlen : (l.take k).length = k := by simp; omega
  rw [List.append_assoc]
  by_cases c : i < k
  · rw [if_pos c, List.getD_eq_getElem?_getD, List.getD_eq_getElem?_getD, List.getElem?_append_left (by omega), List.getElem?_take_of_lt c]
  · rw [if_neg c, List.getD_eq_getElem?_getD, List.getElem?_append_right (by omega), hlen]
    by_cases c2 : i = k
    · subst c2; rw [if_pos rfl, Nat.sub_self]; rfl
    · rw [if_neg c2]
      obtain ⟨j, rfl⟩ : ∃ j, i = k + (j + 1) := ⟨i - k - 1, by omega⟩
      rw [show k + (j + 1) - k = j + 1 by omega]
      show ((l.drop k)[j]?).getD default = _
      rw [List.getElem?_drop, List.getD_eq_getElem?_getD, show k + (j + 1) - 1 = k + j by omega]

theorem goodE_put {l : List Estimate} {e : Estimate} (hg : goodE l = true) (he : oneE e = true) {k : Nat} (hk : k ≤ l.length) (h1 : k < l.length → beforeE e (l.getD k default) = true) (h2 : 0 < k → beforeE (l.getD (k - 1) default) e = true) :
    goodE (((l.take k) ++ [e]) ++ l.drop k) = true := by
  have hat : ∀ i, i < l.length → oneE (l.getD i default) = true ∧ (0 < i → beforeE (l.getD (i - 1) default) (l.getD i default) = true) := by
    intro i hi
    unfold goodE at hg
    have := all_range' hg hi
    unfold okE at this
    simp only [Bool.and_eq_true, Bool.not_eq_true', Bool.and_eq_false_iff, decide_eq_false_iff_not, Bool.not_eq_false'] at this
    exact ⟨this.1, fun h0 => this.2.elim (fun c => absurd h0 c) id⟩
  unfold goodE
  rw [List.all_eq_true]
  intro i hi
  have hi' : i < l.length + 1 := by
    have : (((l.take k) ++ [e]) ++ l.drop k).length = l.length + 1 := by simp; omega
    rw [this] at hi; simpa using hi
  have okmk : ∀ A B : Bool, A = true → (0 < i → B = true) → (A && !(decide (0 < i) && !B)) = true := by
    intro A B hA hB
    rw [hA, Bool.true_and]
    by_cases c : 0 < i
    · rw [hB c]; simp
    · simp [c]
  unfold okE
  rw [put_getD l e hk, put_getD l e hk]
  refine okmk _ _ ?_ (fun h0 => ?_)
  · by_cases c : i < k
    · rw [if_pos c]; exact (hat i (by omega)).1
    · rw [if_neg c]
      by_cases c2 : i = k
      · rw [if_pos c2]; exact he
      · rw [if_neg c2]; exact (hat (i - 1) (by omega)).1
  · by_cases c : i < k
    · rw [if_pos (show i - 1 < k by omega), if_pos c]; exact (hat i (by omega)).2 h0
    · rw [if_neg c]
      by_cases c2 : i = k
      · rw [if_pos c2, if_pos (show i - 1 < k by omega), c2]; exact h2 (by omega)
      · rw [if_neg c2]
        by_cases c3 : i - 1 = k
        · rw [if_neg (show ¬ i - 1 < k by omega), if_pos c3, c3]; exact h1 (by omega)
        · rw [if_neg (show ¬ i - 1 < k by omega), if_neg c3]
          exact (hat (i - 1) (by omega)).2 (by omega)

theorem l06Put_is {l : List Estimate} {e : Estimate} (hl : l.length ≤ 1000) (hg : goodE l = true) (he : oneE e = true) (hf : ∀ i, i < l.length → eqE (l.getD i default) e = false) :
    ∃ l', spec_l06Put l e = some l' ∧ goodE l' = true ∧ l'.length = l.length + 1 := by
  obtain ⟨k, hk, hw, h1, h2⟩ := l06Put_loop hl e l.length (Nat.le_refl _) (fun h => by omega)
  refine ⟨((l.take k) ++ [e]) ++ l.drop k, ?_, goodE_put hg he hk h1 (fun h0 => ?_), by simp; omega⟩
  · unfold spec_l06Put
    rw [hw]
    simp only [Option.bind_some]
    rw [cutOk_of (by omega) (by omega) (by omega), ck_true, appOk_of (by simp [cut]; omega), ck_true, appOk_of (by simp [cut]; omega), ck_true, cutOk_of (by omega) (by omega) (by omega), ck_true, appOk_of (by simp [cut]; omega), ck_true]
    simp [cut]
  · have := hf (k - 1) (by omega)
    unfold eqE at this
    rw [h2 h0] at this
    simpa using this

theorem stars_good : ∀ i : Fin 3, nameB (([[109, 105, 114, 97], [114, 114, 45, 108, 121, 114], [115, 115, 45, 99, 121, 103]] : List (List UInt8)).getD i.val default) = true := by decide +kernel
theorem people_good : ∀ i : Fin 3, nameB (([[97, 98], [99, 100], [101]] : List (List UInt8)).getD i.val default) = true := by decide +kernel

theorem mem_good {l : List (List UInt8)} {n : List UInt8} (hn : n ∈ l) {m : Nat} (hm : l.length = m) (h : ∀ i : Fin m, nameB (l.getD i.val default) = true) : nameB n = true := by
  obtain ⟨i, hi, rfl⟩ := List.getElem_of_mem hn
  have := h ⟨i, by omega⟩
  rwa [getD_lt hi] at this

theorem oneE_mk {t : Int} {s o : List UInt8} {g : Int} {f : Bool} (h1 : 0 ≤ t) (h2 : t ≤ 10000000) (hs : nameB s = true) (ho : nameB o = true) (h3 : -2000 ≤ g) (h4 : g ≤ 20000) : oneE ⟨t, s, o, g, f⟩ = true := by
  unfold oneE
  simp only [hs, ho, Bool.and_true, Bool.and_eq_true, decide_eq_true_eq]
  exact ⟨⟨h1, h2⟩, h3, h4⟩

theorem l06New_is {m : Nat} {s : L00Src} (h : SrcN (m + 20) s) : ∃ e s', spec_l06New s = some (e, s') ∧ oneE e = true ∧ SrcN m s' := by
  unfold spec_l06New
  obtain ⟨t, s1, e1, p1, q1, _, h1⟩ := pick_is (m := m + 18) h (n := 30) (by omega)
  have := q1 (by omega)
  obtain ⟨c, s2, e2, h2⟩ := one_is (m := m + 16) h1 (n := 2) (by omega)
  simp only [e1, e2, Option.bind_some]
  have rest : ∀ {m : Nat} {s : L00Src} (h : SrcN (m + 8) s) {t : Int} (t0 : 0 ≤ t) (t1 : t ≤ 100000), ∃ e s', ((spec_l00Src_text s ([([109, 105, 114, 97] : List UInt8), ([114, 114, 45, 108, 121, 114] : List UInt8), ([115, 115, 45, 99, 121, 103] : List UInt8)] : List (List UInt8))).bind fun y_5 =>
    (spec_l00Src_text y_5.2 ([([97, 98] : List UInt8), ([99, 100] : List UInt8), ([101] : List UInt8)] : List (List UInt8))).bind fun y_6 =>
    (spec_l00Src_pick y_6.2 60).bind fun y_7 =>
    (spec_l00Src_one y_7.2 5).bind fun y_8 =>
    some ((Estimate.mk t y_5.1 y_6.1 (IntKind.i64.wrap (8000 + (IntKind.i64.wrap (50 * y_7.1)))) y_8.1), y_8.2)) = some (e, s') ∧ oneE e = true ∧ SrcN m s' := by
    intro m s h t t0 t1
    obtain ⟨n1, s1, e1, g1, h1⟩ := text_is (m := m + 6) h (l := ([([109, 105, 114, 97] : List UInt8), ([114, 114, 45, 108, 121, 114] : List UInt8), ([115, 115, 45, 99, 121, 103] : List UInt8)] : List (List UInt8))) (by decide) (by decide)
    obtain ⟨n2, s2, e2, g2, h2⟩ := text_is (m := m + 4) h1 (l := ([([97, 98] : List UInt8), ([99, 100] : List UInt8), ([101] : List UInt8)] : List (List UInt8))) (by decide) (by decide)
    obtain ⟨v, s3, e3, p3, q3, _, h3⟩ := pick_is (m := m + 2) h2 (n := 60) (by omega)
    have := q3 (by omega)
    obtain ⟨c, s4, e4, h4⟩ := one_is (m := m) h3 (n := 5) (by omega)
    simp only [e1, e2, e3, e4, Option.bind_some]
    rw [wrap_i64 (n := 50 * v) (by omega) (by omega), wrap_i64 (n := 8000 + 50 * v) (by omega) (by omega)]
    exact ⟨_, _, rfl, oneE_mk t0 (by omega) (mem_good g1 rfl stars_good) (mem_good g2 rfl people_good) (by omega) (by omega), h4⟩
  rw [wrap_i64 (n := 1000 * t) (by omega) (by omega)]
  cases c
  · simp only [Bool.false_eq_true, if_false]
    obtain ⟨e, s', a1, a2, a3⟩ := rest (m := m + 8) h2 (t := 1000 * t) (by omega) (by omega)
    exact ⟨e, s', a1, a2, a3.le (by omega)⟩
  · obtain ⟨u, s3, e3, p3, q3, _, h3⟩ := pick_is (m := m + 14) h2 (n := 3000) (by omega)
    have := q3 (by omega)
    simp only [if_true, e3, Option.bind_some]
    rw [wrap_i64 (n := 1000 * t + u) (by omega) (by omega)]
    obtain ⟨e, s', a1, a2, a3⟩ := rest (m := m + 6) h3 (t := 1000 * t + u) (by omega) (by omega)
    exact ⟨e, s', a1, a2, a3.le (by omega)⟩

theorem l06Draw_is {m : Nat} {s : L00Src} (h : SrcN (m + 400) s) {most : Nat} (hmost : most ≤ 12) : ∃ l s', spec_l06Draw s (most : Int) = some (l, s') ∧ goodE l = true ∧ l.length ≤ most ∧ SrcN m s' := by
  unfold spec_l06Draw
  have w13 : IntKind.i64.wrap ((most : Int) + 1) = (most : Int) + 1 := wrap_i64 (by omega) (by omega)
  obtain ⟨n, s1, e1, p1, q1, _, h1⟩ := pick_is (m := m + 390) (h.le (by omega)) (n := (most : Int) + 1) (by omega)
  have := q1 (by omega)
  simp only [Option.bind_some, w13, e1]
  obtain ⟨y, hy, hq⟩ := while_post (step := spec_l06Draw_l1)
    (fun x => 0 ≤ x.2.2 ∧ (x.2.1.length : Int) + x.2.2 ≤ most ∧ SrcN (m + 30 * x.2.2.toNat) x.1 ∧ goodE x.2.1 = true) (fun y => goodE y.2 = true ∧ y.2.length ≤ most ∧ SrcN m y.1) (fun x => x.2.2.toNat) (by
    rintro ⟨s, out, k⟩ ⟨k0, k1, hs, hg⟩
    simp only at k0 k1 hs hg
    by_cases c : 0 < k
    · left
      obtain ⟨e, s', e2, he, h2⟩ := l06New_is (m := m + 30 * (k - 1).toNat) (hs.le (by omega))
      have w : IntKind.i64.wrap (k - 1) = k - 1 := wrap_i64 (by omega) (by omega)
      simp only [spec_l06Draw_l1, c, decide_true, if_true, e2, Option.bind_some, w]
      rw [l06Find_is (by omega)]
      cases hfd : (List.range out.length).find? (fun i => eqE (out.getD i default) e) with
      | some j =>
        have : ¬ (j : Int) < 0 := by omega
        simp only [Option.bind_some, this, decide_false, Bool.false_eq_true, if_false]
        exact ⟨_, rfl, ⟨by show 0 ≤ k - 1; omega, by show (out.length : Int) + (k - 1) ≤ most; omega, h2, hg⟩, by show (k - 1).toNat < k.toNat; omega⟩
      | none =>
        rw [List.find?_eq_none] at hfd
        obtain ⟨l', e3, hg3, hl3⟩ := l06Put_is (l := out) (by omega) hg he (fun i hi => by simpa using hfd i (by simpa using hi))
        have : decide ((-1 : Int) < 0) = true := by decide
        simp only [Option.bind_some, this, if_true, e3]
        exact ⟨_, rfl, ⟨by show 0 ≤ k - 1; omega, by show (l'.length : Int) + (k - 1) ≤ most; omega, h2, hg3⟩, by show (k - 1).toNat < k.toNat; omega⟩
    · right
      exact ⟨(s, out), by simp [spec_l06Draw_l1, c], hg, by show out.length ≤ most; omega, hs.le (by omega)⟩) (s := (s1, [], n)) ⟨p1, by show ((([] : List Estimate).length : Nat) : Int) + n ≤ most; simp; omega, h1.le (by show m + 30 * n.toNat ≤ m + 390; omega), rfl⟩
  rw [hy]
  exact ⟨y.2, y.1, rfl, hq.1, hq.2.1, hq.2.2⟩

/-! ### Times -/

theorem goodE_nb {l : List Estimate} (hg : goodE l = true) {i : Nat} (hi : i < l.length) : oneE (l.getD i default) = true ∧ (0 < i → (l.getD (i - 1) default).Time ≤ (l.getD i default).Time) := by
  unfold goodE at hg
  have := all_range' hg hi
  unfold okE at this
  simp only [Bool.and_eq_true, Bool.not_eq_true', Bool.and_eq_false_iff, decide_eq_false_iff_not, Bool.not_eq_false'] at this
  refine ⟨this.1, fun h0 => ?_⟩
  have hb : beforeE (l.getD (i - 1) default) (l.getD i default) = true := this.2.elim (fun c => absurd h0 c) id
  unfold beforeE at hb
  split at hb
  · omega
  · have := of_decide_eq_true hb; omega

theorem times_rise {l : List Estimate} (hg : goodE l = true) : ∀ (d i : Nat), i + d < l.length → (l.getD i default).Time ≤ (l.getD (i + d) default).Time
  | 0, i, _ => Int.le_refl _
  | d + 1, i, h => by
    have h1 := times_rise hg d i (by omega)
    have h2 := (goodE_nb hg (show i + (d + 1) < l.length from h)).2 (by omega)
    rw [show i + (d + 1) - 1 = i + d by omega] at h2
    omega

theorem oneE_in {e : Estimate} (h : oneE e = true) : 0 ≤ e.Time ∧ e.Time ≤ 10000000 ∧ -2000 ≤ e.Mag ∧ e.Mag ≤ 20000 := by
  unfold oneE at h
  simp only [Bool.and_eq_true, decide_eq_true_eq] at h
  exact ⟨h.1.1.1.1, h.1.1.1.2, h.2.1, h.2.2⟩

end Go.Proofs.YtbobhejdijcofaaGreatDoor

/- What typed forms say: drawn estimates that are seldom not valid. No condition. -/
namespace Go.Proofs.YtbobhejdijcofaaGreatDoor
open Go Go.RowKit
set_option linter.unusedSimpArgs false
set_option linter.unusedVariables false

theorem l02Bent_is {m : Nat} {s : L00Src} (h : SrcN (m + 10) s) : ∃ v s', spec_l02Bent s = some (v, s') ∧ SrcN m s' := by
  unfold spec_l02Bent
  obtain ⟨b, s1, e1, h1⟩ := one_is (m := m + 8) h (n := 14) (by omega)
  rw [e1, Option.bind_some]
  cases b
  · simp only [Bool.false_eq_true, if_false]
    unfold spec_l02Draw
    obtain ⟨b2, s2, e2, h2⟩ := one_is (m := m + 6) h1 (n := 8) (by omega)
    rw [e2, Option.bind_some]
    cases b2
    · obtain ⟨v, s3, e3, _, _, _, h3⟩ := pick_is (m := m + 4) h2 (n := 60) (by omega)
      simp only [Bool.false_eq_true, if_false, e3, Option.bind_some]
      exact ⟨_, _, rfl, h3.le (by omega)⟩
    · obtain ⟨v, s3, e3, _, _, _, h3⟩ := pick_is (m := m + 4) h2 (n := 22001) (by omega)
      simp only [if_true, e3, Option.bind_some]
      exact ⟨_, _, rfl, h3.le (by omega)⟩
  · obtain ⟨v, s3, e3, _, h3⟩ := among_is (m := m + 6) h1 (l := [(-2001), (-2000), 20000, 20001, (-9223372036854775808), 9223372036854775807]) (by simp) (by simp)
    simp only [if_true, e3, Option.bind_some]
    exact ⟨_, _, rfl, h3.le (by omega)⟩

theorem l06BentOne_is {m : Nat} {s : L00Src} (h : SrcN (m + 40) s) : ∃ e s', spec_l06BentOne s = some (e, s') ∧ SrcN m s' := by
  unfold spec_l06BentOne
  obtain ⟨e, s1, e1, _, h1⟩ := l06New_is (m := m + 20) h
  obtain ⟨v, s2, e2, _, _, _, h2⟩ := pick_is (m := m + 18) h1 (n := 24) (by omega)
  rw [e1, Option.bind_some, e2, Option.bind_some]
  split
  · obtain ⟨x, s3, e3, _, h3⟩ := among_is (m := m + 10) (h2.le (by omega)) (l := [(-1), 0, 10000000, 10000001]) (by simp) (by simp)
    rw [e3]; exact ⟨_, _, rfl, h3.le (by omega)⟩
  · split
    · obtain ⟨x, s3, e3, _, h3⟩ := text_is (m := m + 10) (h2.le (by omega)) (l := [([] : List UInt8), ([77, 105, 114, 97] : List UInt8), ([97, 32, 98] : List UInt8)]) (by simp) (by simp)
      rw [e3]; exact ⟨_, _, rfl, h3.le (by omega)⟩
    · split
      · obtain ⟨x, s3, e3, _, h3⟩ := text_is (m := m + 10) (h2.le (by omega)) (l := [([] : List UInt8), ([65, 66] : List UInt8)]) (by simp) (by simp)
        rw [e3]; exact ⟨_, _, rfl, h3.le (by omega)⟩
      · split
        · obtain ⟨x, s3, e3, h3⟩ := l02Bent_is (m := m) (h2.le (by omega))
          rw [e3]; exact ⟨_, _, rfl, h3⟩
        · exact ⟨_, _, rfl, h2.le (by omega)⟩

theorem bent_loop (s : L00Src) {n : Int} (h0 : 0 ≤ n) (h1 : n ≤ 200) : ∃ l, whileE (spec_l06Bent_l1 s) (([] : List Estimate), n) = some l ∧ l.length ≤ 1000 := by
  obtain ⟨y, hy, q⟩ := while_post (step := spec_l06Bent_l1 s) (fun x => 0 ≤ x.2 ∧ (x.1.length : Int) + x.2 ≤ 200) (fun y => y.length ≤ 1000) (fun x => x.2.toNat) (by
    rintro ⟨l, k⟩ ⟨k0, k1⟩
    simp only at k0 k1
    by_cases c : 0 < k
    · left
      simp only [spec_l06Bent_l1, c, decide_true, if_true]
      rw [appOk_of (by simp; omega), ck_true, wrap_i64 (n := k - 1) (by omega) (by omega)]
      exact ⟨_, rfl, ⟨by show 0 ≤ k - 1; omega, by show ((l ++ [_]).length : Int) + (k - 1) ≤ 200; simp; omega⟩, by show (k - 1).toNat < k.toNat; omega⟩
    · right
      exact ⟨l, by simp [spec_l06Bent_l1, c], by omega⟩) (s := (([] : List Estimate), n)) ⟨h0, by simp; omega⟩
  exact ⟨y, hy, q⟩

theorem l06Bent_is {m : Nat} {s : L00Src} (h : SrcN (m + 1000) s) : ∃ l s', spec_l06Bent s = some (l, s') ∧ l.length ≤ 1000 ∧ SrcN m s' := by
  unfold spec_l06Bent
  obtain ⟨l, s1, e1, _, hl, h1⟩ := l06Draw_is (m := m + 600) h (most := 10) (by omega)
  have e1' : spec_l06Draw s 10 = some (l, s1) := e1
  obtain ⟨v, s2, e2, _, _, _, h2⟩ := pick_is (m := m + 500) (h1.le (by omega)) (n := 20) (by omega)
  rw [e1', Option.bind_some, e2, Option.bind_some]
  simp only
  split
  · obtain ⟨e, s3, e3, h3⟩ := l06BentOne_is (m := m + 400) (h2.le (by omega))
    rw [e3, Option.bind_some, appOk_of (by simp; omega), ck_true]
    exact ⟨_, _, rfl, by simp; omega, h3.le (by omega)⟩
  · split
    · obtain ⟨u, s3, e3, u0, u1, _, h3⟩ := pick_is (m := m + 400) (h2.le (by omega)) (n := 2) (by omega)
      have u2 := u1 (by omega)
      rw [e3, Option.bind_some, wrap_i64 (n := 100 + u) (by omega) (by omega)]
      obtain ⟨y, hy, hyl⟩ := bent_loop s3 (n := 100 + u) (by omega) (by omega)
      simp only
      rw [hy]
      exact ⟨_, _, rfl, hyl, h3.le (by omega)⟩
    · split
      · split
        · rename_i hp
          have hp : 0 < (l.length : Int) := by simpa using hp
          obtain ⟨u, s3, e3, u0, u1, _, h3⟩ := pick_is (m := m + 400) (h2.le (by omega)) (n := (l.length : Int)) (by omega)
          have u2 := u1 (by omega)
          obtain ⟨e, s4, e4, h4⟩ := l06BentOne_is (m := m + 300) (h3.le (by omega))
          rw [e3, Option.bind_some, e4, Option.bind_some, ixOk_of u0 (by omega), ck_true]
          exact ⟨_, _, rfl, by rw [List.length_set]; omega, h4.le (by omega)⟩
        · exact ⟨_, _, rfl, by show l.length ≤ 1000; omega, h2.le (by omega)⟩
      · exact ⟨_, _, rfl, by show l.length ≤ 1000; omega, h2.le (by omega)⟩

end Go.Proofs.YtbobhejdijcofaaGreatDoor

/- What typed forms say: drawn light curves. No condition. -/
namespace Go.Proofs.YtbobhejdijcofaaGreatDoor
open Go Go.RowKit
set_option linter.unusedSimpArgs false
set_option linter.unusedVariables false

/-- A point behind the others. -/
theorem goodP_app {c : List Point} {p : Point} (hg : goodP c = true) (h1 : 0 ≤ p.Time) (h2 : p.Time ≤ 10000000) (h3 : -2000 ≤ p.Mag) (h4 : p.Mag ≤ 20000) (hl : 0 < c.length → (c.getD (c.length - 1) default).Time < p.Time) : goodP (c ++ [p]) = true := by
  have ga : ∀ j, j < c.length → (c ++ [p]).getD j default = c.getD j default := fun j hj => by
    rw [List.getD_eq_getElem?_getD, List.getD_eq_getElem?_getD, List.getElem?_append_left hj]
  have gx : (c ++ [p]).getD c.length default = p := by
    rw [List.getD_eq_getElem?_getD, List.getElem?_append_right (Nat.le_refl _), Nat.sub_self]; rfl
  unfold goodP
  rw [List.all_eq_true]
  intro i hi
  have hi' : i < c.length + 1 := by simpa using hi
  rcases Nat.lt_or_ge i c.length with h | h
  · unfold goodP at hg
    have := all_range' hg h
    unfold okP at this ⊢
    rw [ga i h, ga (i - 1) (by omega)]
    exact this
  · obtain rfl : i = c.length := by omega
    unfold okP
    rw [gx]
    have e1 : ((decide (0 ≤ p.Time) && decide (p.Time ≤ 10000000)) && (decide (-2000 ≤ p.Mag) && decide (p.Mag ≤ 20000))) = true := by
      simp only [Bool.and_eq_true, decide_eq_true_eq]; exact ⟨⟨h1, h2⟩, h3, h4⟩
    rw [e1, Bool.true_and]
    by_cases h0 : 0 < c.length
    · rw [ga (c.length - 1) (by omega)]
      have := hl h0
      have e2 : decide (p.Time ≤ (c.getD (c.length - 1) default).Time) = false := decide_eq_false (by omega)
      rw [e2]; simp
    · have e2 : decide (0 < c.length) = false := by simpa using h0
      rw [e2]; rfl


theorem l08Draw_is {m : Nat} {s : L00Src} (h : SrcN (m + 100) s) {most : Nat} (hmost : most ≤ 12) : ∃ l s', spec_l08Draw s (most : Int) = some (l, s') ∧ goodP l = true ∧ l.length ≤ most ∧ SrcN m s' := by
  unfold spec_l08Draw
  obtain ⟨a, s1, e1, a0, a1, _, h1⟩ := pick_is (m := m + 98) h (n := 9) (by omega)
  have a2 := a1 (by omega)
  have w13 : IntKind.i64.wrap ((most : Int) + 1) = (most : Int) + 1 := wrap_i64 (by omega) (by omega)
  obtain ⟨n, s2, e2, n0, n1, _, h2⟩ := pick_is (m := m + 96) h1 (n := (most : Int) + 1) (by omega)
  have n2 := n1 (by omega)
  rw [e1, Option.bind_some, w13, e2, Option.bind_some, wrap_i64 (n := 1000 * a) (by omega) (by omega)]
  obtain ⟨y, hy, hq⟩ := while_post (step := spec_l08Draw_l1)
    (fun x => 0 ≤ x.2.2.2 ∧ (x.2.1.length : Int) + x.2.2.2 ≤ most ∧ SrcN (m + 8 * x.2.2.2.toNat) x.1 ∧ goodP x.2.1 = true ∧ 0 ≤ x.2.2.1 ∧ x.2.2.1 ≤ 8000 + 4000 * x.2.1.length ∧ (0 < x.2.1.length → (x.2.1.getD (x.2.1.length - 1) default).Time < x.2.2.1)) (fun y => goodP y.2 = true ∧ y.2.length ≤ most ∧ SrcN m y.1) (fun x => x.2.2.2.toNat) (by
    rintro ⟨s, out, t, k⟩ ⟨k0, k1, hs, hg, t0, t1, ht⟩
    simp only at k0 k1 hs hg t0 t1 ht
    by_cases c : 0 < k
    · left
      obtain ⟨u, s3, e3, u0, u1, _, h3⟩ := pick_is (m := m + 8 * (k - 1).toNat + 2) (hs.le (by omega)) (n := 100) (by omega)
      have u2 := u1 (by omega)
      obtain ⟨v, s4, e4, v0, v1, _, h4⟩ := pick_is (m := m + 8 * (k - 1).toNat) h3 (n := 40) (by omega)
      have v2 := v1 (by omega)
      have w : IntKind.i64.wrap (k - 1) = k - 1 := wrap_i64 (by omega) (by omega)
      simp only [spec_l08Draw_l1, c, decide_true, if_true, e3, e4, Option.bind_some, w]
      rw [wrap_i64 (n := 20 * u) (by omega) (by omega), wrap_i64 (n := 8000 + 20 * u) (by omega) (by omega), wrap_i64 (n := 1 + v) (by omega) (by omega), wrap_i64 (n := 100 * (1 + v)) (by omega) (by omega), wrap_i64 (n := t + 100 * (1 + v)) (by omega) (by omega), appOk_of (by simp; omega), ck_true]
      refine ⟨_, rfl, ⟨by show 0 ≤ k - 1; omega, by show ((out ++ [_]).length : Int) + (k - 1) ≤ most; simp; omega, h4, goodP_app hg t0 (by show t ≤ 10000000; omega) (by show -2000 ≤ 8000 + 20 * u; omega) (by show 8000 + 20 * u ≤ 20000; omega) ht, by show 0 ≤ t + 100 * (1 + v); omega, by show t + 100 * (1 + v) ≤ 8000 + 4000 * (((out ++ [_]).length : Nat) : Int); simp; omega, fun _ => ?_⟩, by show (k - 1).toNat < k.toNat; omega⟩
      show ((out ++ [_]).getD ((out ++ [_]).length - 1) default).Time < t + 100 * (1 + v)
      simp; omega
    · right
      exact ⟨(s, out), by simp [spec_l08Draw_l1, c], hg, by show out.length ≤ most; omega, hs.le (by omega)⟩) (s := (s2, [], 1000 * a, n)) ⟨n0, by show ((([] : List Point).length : Nat) : Int) + n ≤ most; simp; omega, h2.le (by show m + 8 * n.toNat ≤ m + 96; omega), rfl, by show 0 ≤ 1000 * a; omega, by show 1000 * a ≤ 8000 + 4000 * (((([] : List Point)).length : Nat) : Int); simp; omega, fun c => absurd c (by simp)⟩
  rw [hy]
  exact ⟨y.2, y.1, rfl, hq.1, hq.2.1, hq.2.2⟩

end Go.Proofs.YtbobhejdijcofaaGreatDoor

/- What typed forms say: what reports and plots are drawn from. No condition. -/
namespace Go.Proofs.YtbobhejdijcofaaGreatDoor
open Go Go.RowKit
set_option linter.unusedSimpArgs false
set_option linter.unusedVariables false

theorem bent_loopC (s : L00Src) {n : Int} (h0 : 0 ≤ n) (h1 : n ≤ 200) : ∃ l, whileE (spec_l08Bent_l1 s) (([] : List Point), n) = some l ∧ l.length ≤ 1000 := by
  obtain ⟨y, hy, q⟩ := while_post (step := spec_l08Bent_l1 s) (fun x => 0 ≤ x.2 ∧ (x.1.length : Int) + x.2 ≤ 200) (fun y => y.length ≤ 1000) (fun x => x.2.toNat) (by
    rintro ⟨l, k⟩ ⟨k0, k1⟩
    simp only at k0 k1
    by_cases c : 0 < k
    · left
      simp only [spec_l08Bent_l1, c, decide_true, if_true]
      rw [appOk_of (by simp; omega), ck_true, wrap_i64 (n := k - 1) (by omega) (by omega)]
      exact ⟨_, rfl, ⟨by show 0 ≤ k - 1; omega, by show ((l ++ [_]).length : Int) + (k - 1) ≤ 200; simp; omega⟩, by show (k - 1).toNat < k.toNat; omega⟩
    · right
      exact ⟨l, by simp [spec_l08Bent_l1, c], by omega⟩) (s := (([] : List Point), n)) ⟨h0, by simp; omega⟩
  exact ⟨y, hy, q⟩

theorem l08Bent_is {m : Nat} {s : L00Src} (h : SrcN (m + 1000) s) : ∃ l s', spec_l08Bent s = some (l, s') ∧ l.length ≤ 1000 ∧ SrcN m s' := by
  unfold spec_l08Bent
  obtain ⟨l, s1, e1, _, hl, h1⟩ := l08Draw_is (m := m + 900) h (most := 12) (by omega)
  have e1' : spec_l08Draw s 12 = some (l, s1) := e1
  obtain ⟨v, s2, e2, _, _, _, h2⟩ := pick_is (m := m + 800) (h1.le (by omega)) (n := 20) (by omega)
  rw [e1', Option.bind_some, e2, Option.bind_some]
  simp only
  split
  · obtain ⟨e, s3, e3, _, h3⟩ := among_is (m := m) (h2.le (by omega)) (l := [(-1), 0, 10000000, 10000001]) (by simp) (by simp)
    rw [e3, Option.bind_some, appOk_of (by simp; omega), ck_true]
    exact ⟨_, _, rfl, by simp; omega, h3⟩
  · split
    · split
      · rename_i hp
        have hp : 0 < (l.length : Int) := by simpa using hp
        obtain ⟨u, s3, e3, u0, u1, _, h3⟩ := pick_is (m := m + 700) (h2.le (by omega)) (n := (l.length : Int)) (by omega)
        have u2 := u1 (by omega)
        obtain ⟨e, s4, e4, h4⟩ := l02Bent_is (m := m) (h3.le (by omega))
        rw [e3, Option.bind_some, e4, Option.bind_some, ixOk_of u0 (by omega), ck_true]
        exact ⟨_, _, rfl, by rw [List.length_set]; omega, h4⟩
      · exact ⟨_, _, rfl, by show l.length ≤ 1000; omega, h2.le (by omega)⟩
    · split
      · obtain ⟨u, s3, e3, u0, u1, _, h3⟩ := pick_is (m := m) (h2.le (by omega)) (n := 2) (by omega)
        have u2 := u1 (by omega)
        rw [e3, Option.bind_some, wrap_i64 (n := 100 + u) (by omega) (by omega)]
        obtain ⟨y, hy, hyl⟩ := bent_loopC s3 (n := 100 + u) (by omega) (by omega)
        simp only
        rw [hy]
        exact ⟨_, _, rfl, hyl, h3⟩
      · exact ⟨_, _, rfl, by show l.length ≤ 1000; omega, h2.le (by omega)⟩

theorem DrawReportRows_is {c : List UInt8} (h : c.length ≤ 1099511627776) : ∃ l, spec_DrawReportRows c = some l ∧ l.length ≤ 1000 := by
  obtain ⟨l, s1, e1, hl, _⟩ := l06Bent_is (m := 800000000000) ((srcN_from h).le (by omega))
  unfold spec_DrawReportRows
  rw [From_is, Option.bind_some, e1, Option.bind_some]
  exact ⟨l, rfl, hl⟩

theorem DrawStarRow_is {c : List UInt8} (h : c.length ≤ 1099511627776) : ∃ l s, spec_DrawStarRow c = some (l, s) ∧ l.length ≤ 1000 := by
  obtain ⟨l, s1, e1, hl, h1⟩ := l06Bent_is (m := 800000000000) ((srcN_from h).le (by omega))
  unfold spec_DrawStarRow spec_l06Name
  obtain ⟨t, s2, e2, _, _⟩ := text_is (m := 700000000000) (h1.le (by omega)) (l := [([109, 105, 114, 97] : List UInt8), ([114, 114, 45, 108, 121, 114] : List UInt8), ([115, 115, 45, 99, 121, 103] : List UInt8), ([110, 111, 110, 101] : List UInt8), ([] : List UInt8), ([97, 98] : List UInt8), ([99, 100] : List UInt8)]) (by simp) (by simp)
  rw [From_is, Option.bind_some, e1, Option.bind_some]
  simp only
  rw [e2, Option.bind_some, Option.bind_some]
  exact ⟨l, _, rfl, hl⟩

theorem DrawPlotLines_is {c : List UInt8} (h : c.length ≤ 1099511627776) : ∃ l a b, spec_DrawPlotLines c = some (l, a, b) ∧ l.length ≤ 1000 := by
  obtain ⟨l, s1, e1, hl, h1⟩ := l08Bent_is (m := 800000000000) ((srcN_from h).le (by omega))
  unfold spec_DrawPlotLines
  rw [From_is, Option.bind_some, e1, Option.bind_some]
  simp only
  obtain ⟨v, s2, e2, _, _, _, h2⟩ := pick_is (m := 700000000000) (h1.le (by omega)) (n := 30) (by omega)
  obtain ⟨w, s3, e3, h3⟩ := one_is (m := 600000000000) (h2.le (by omega)) (n := 10) (by omega)
  rw [e2, Option.bind_some]
  simp only
  rw [e3, Option.bind_some]
  simp only
  cases w
  · rw [if_neg Bool.false_ne_true]
    obtain ⟨w, s4, e4, h4⟩ := one_is (m := 500000000000) (h3.le (by omega)) (n := 10) (by omega)
    rw [e4, Option.bind_some]
    simp only
    cases w
    · rw [if_neg Bool.false_ne_true]
      obtain ⟨v, s5, e5, _⟩ := pick_is (m := 400000000000) (h4.le (by omega)) (n := 9) (by omega)
      rw [e5, Option.bind_some]
      exact ⟨l, _, _, rfl, hl⟩
    · rw [if_pos rfl]
      obtain ⟨v, s5, e5, _⟩ := among_is (m := 400000000000) (h4.le (by omega)) (l := [(-1), 0, 1, 60, 61]) (by simp) (by simp)
      rw [e5, Option.bind_some]
      exact ⟨l, _, _, rfl, hl⟩
  · rw [if_pos rfl]
    obtain ⟨v, s4, e4, _, h4⟩ := among_is (m := 500000000000) (h3.le (by omega)) (l := [(-1), 0, 1, 80, 81]) (by simp) (by simp)
    rw [e4, Option.bind_some]
    simp only
    obtain ⟨w, s5, e5, h5⟩ := one_is (m := 400000000000) (h4.le (by omega)) (n := 10) (by omega)
    rw [e5, Option.bind_some]
    simp only
    cases w
    · rw [if_neg Bool.false_ne_true]
      obtain ⟨v, s6, e6, _⟩ := pick_is (m := 300000000000) (h5.le (by omega)) (n := 9) (by omega)
      rw [e6, Option.bind_some]
      exact ⟨l, _, _, rfl, hl⟩
    · rw [if_pos rfl]
      obtain ⟨v, s6, e6, _⟩ := among_is (m := 300000000000) (h5.le (by omega)) (l := [(-1), 0, 1, 60, 61]) (by simp) (by simp)
      rw [e6, Option.bind_some]
      exact ⟨l, _, _, rfl, hl⟩

end Go.Proofs.YtbobhejdijcofaaGreatDoor

