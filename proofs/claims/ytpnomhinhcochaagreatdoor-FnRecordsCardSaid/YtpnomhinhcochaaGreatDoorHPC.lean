/- Plain lemmas, several texts in one. No condition. -/
import Derived.Test.YtpnomhinhcochaaGreatDoorRCL
import Derived.Test.YtpnomhinhcochaaGreatDoorHPA
/- What typed forms say: choices drawn from bytes. No condition. -/
namespace Go.Proofs.YtpnomhinhcochaaGreatDoor
open Go Go.RowKit
set_option linter.unusedSimpArgs false
set_option linter.unusedVariables false

def SrcN (m : Nat) (s : L00Src) : Prop := 0 ≤ s.at_ ∧ s.at_ + m ≤ 1000000000000 ∧ s.code_.length ≤ 1099511627776

theorem SrcN.le {m n : Nat} {s : L00Src} (h : SrcN m s) (hn : n ≤ m) : SrcN n s := ⟨h.1, by have := h.2.1; omega, h.2.2⟩

theorem From_is (c : List UInt8) : spec_l00From c = some ⟨c, 0, 0⟩ := id rfl

theorem srcN_from {c : List UInt8} (h : c.length ≤ 1099511627776) : SrcN 900000000000 ⟨c, 0, 0⟩ := ⟨by show (0 : Int) ≤ 0; omega, by show (0 : Int) + _ ≤ _; omega, h⟩

theorem and255 (n : Int) : 0 ≤ IntKind.u64.wrap (BitVec.ofInt (IntKind.bits .u64) n &&& BitVec.ofInt (IntKind.bits .u64) 255).toNat ∧ IntKind.u64.wrap (BitVec.ofInt (IntKind.bits .u64) n &&& BitVec.ofInt (IntKind.bits .u64) 255).toNat ≤ 255 := by
  have h : (BitVec.ofInt (IntKind.bits .u64) n &&& BitVec.ofInt (IntKind.bits .u64) 255).toNat ≤ 255 := by
    rw [BitVec.toNat_and]
    refine Nat.le_trans Nat.and_le_right ?_
    decide
  generalize (BitVec.ofInt (IntKind.bits .u64) n &&& BitVec.ofInt (IntKind.bits .u64) 255).toNat = q at h ⊢
  unfold IntKind.wrap IntKind.bits
  simp [IntKind.signed]
  omega

theorem next_is {m : Nat} {s : L00Src} (h : SrcN (m + 1) s) : ∃ v s', spec_l00Src_next s = some (v, s') ∧ 0 ≤ v ∧ v ≤ 255 ∧ SrcN m s' := by
  obtain ⟨c, at_, seed⟩ := s
  obtain ⟨h1, h2, h3⟩ := h
  simp only at h1 h2 h3
  have w : IntKind.i64.wrap (at_ + 1) = at_ + 1 := wrap_i64 (by omega) (by omega)
  have hn : ∀ z, SrcN m ⟨c, at_ + 1, z⟩ := fun z => ⟨by show 0 ≤ at_ + 1; omega, by show at_ + 1 + (m : Int) ≤ _; omega, h3⟩
  have w255 : ∀ n, IntKind.i64.wrap (IntKind.u64.wrap (BitVec.ofInt (IntKind.bits .u64) n &&& BitVec.ofInt (IntKind.bits .u64) 255).toNat) = IntKind.u64.wrap (BitVec.ofInt (IntKind.bits .u64) n &&& BitVec.ofInt (IntKind.bits .u64) 255).toNat := fun n => by
    have := and255 n
    exact wrap_i64 (by omega) (by omega)
  unfold spec_l00Src_next
  simp only [w]
  by_cases c1 : at_ < (c.length : Int)
  · have b := u8_lt (c.getD at_.toNat default)
    have c2 : at_ + 1 ≤ (c.length : Int) := by omega
    rw [ixOk_of h1 (by omega)]
    simp only [c1, c2, decide_true, if_true, ck_true]
    exact ⟨_, _, rfl, by omega, by omega, hn _⟩
  · simp only [c1, decide_false, Bool.false_eq_true, if_false]
    have c2 : ¬ at_ + 1 ≤ (c.length : Int) := by omega
    simp only [c2, decide_false, Bool.false_eq_true, if_false]
    rw [shOk_of (by omega), ck_true, w255]
    exact ⟨_, _, rfl, (and255 _).1, (and255 _).2, hn _⟩

theorem pick_is {m : Nat} {s : L00Src} (h : SrcN (m + 2) s) {n : Int} (hn : n ≤ 9223372036854775807) : ∃ v s', spec_l00Src_pick s n = some (v, s') ∧ 0 ≤ v ∧ (1 ≤ n → v < n) ∧ (n ≤ 1 → v = 0) ∧ SrcN m s' := by
  unfold spec_l00Src_pick
  by_cases c : n ≤ 1
  · simp only [c, decide_true, if_true]
    exact ⟨0, s, rfl, by omega, by omega, fun _ => rfl, h.le (by omega)⟩
  · obtain ⟨v1, s1, e1, a1, b1, h1⟩ := next_is h
    obtain ⟨v2, s2, e2, a2, b2, h2⟩ := next_is h1
    simp only [c, decide_false, Bool.false_eq_true, if_false, e1, Option.bind_some]
    by_cases c2 : 200 < n
    · have w1 : IntKind.i64.wrap (v1 * 256) = v1 * 256 := wrap_i64 (by omega) (by omega)
      have w2 : IntKind.i64.wrap (v1 * 256 + v2) = v1 * 256 + v2 := wrap_i64 (by omega) (by omega)
      simp only [c2, decide_true, if_true, e2, Option.bind_some, nz_of (show n ≠ 0 by omega), ck_true, w1, w2, Int.tmod_eq_emod_of_nonneg (show 0 ≤ v1 * 256 + v2 by omega)]
      exact ⟨_, _, rfl, Int.emod_nonneg _ (by omega), fun _ => Int.emod_lt_of_pos _ (by omega), fun hc => hc.elim, h2⟩
    · simp only [c2, decide_false, Bool.false_eq_true, if_false, nz_of (show n ≠ 0 by omega), ck_true, Int.tmod_eq_emod_of_nonneg a1]
      exact ⟨_, _, rfl, Int.emod_nonneg _ (by omega), fun _ => Int.emod_lt_of_pos _ (by omega), fun hc => hc.elim, h1.le (by omega)⟩

end Go.Proofs.YtpnomhinhcochaaGreatDoor

/- What typed forms say: one of the drawn. No condition. -/
namespace Go.Proofs.YtpnomhinhcochaaGreatDoor
open Go Go.RowKit
set_option linter.unusedSimpArgs false
set_option linter.unusedVariables false

theorem one_is {m : Nat} {s : L00Src} (h : SrcN (m + 2) s) {n : Int} (hn : n ≤ 9223372036854775807) : ∃ v s', spec_l00Src_one s n = some (v, s') ∧ SrcN m s' := by
  obtain ⟨v, s', e, _, _, _, h'⟩ := pick_is h hn
  exact ⟨v == 0, s', by unfold spec_l00Src_one; rw [e]; rfl, h'⟩

end Go.Proofs.YtpnomhinhcochaaGreatDoor

/- What typed forms say: one of some texts. No condition. -/
namespace Go.Proofs.YtpnomhinhcochaaGreatDoor
open Go Go.RowKit
set_option linter.unusedSimpArgs false
set_option linter.unusedVariables false

theorem text_is {m : Nat} {s : L00Src} (h : SrcN (m + 2) s) {l : List (List UInt8)} (h1 : 1 ≤ l.length) (h2 : l.length ≤ 1000) : ∃ v s', spec_l00Src_text s l = some (v, s') ∧ v ∈ l ∧ SrcN m s' := by
  obtain ⟨v, s', e, a, b, _, h'⟩ := pick_is h (n := (l.length : Int)) (by omega)
  have := b (by omega)
  unfold spec_l00Src_text
  rw [e]
  simp only [Option.bind_some]
  rw [ixOk_of a (by omega), ck_true]
  exact ⟨_, s', rfl, getD_mem (by omega) _, h'⟩

end Go.Proofs.YtpnomhinhcochaaGreatDoor

/- What typed forms say: drawn estimates. No condition. -/
namespace Go.Proofs.YtpnomhinhcochaaGreatDoor
open Go Go.RowKit
set_option linter.unusedSimpArgs false
set_option linter.unusedVariables false

/-! ### Drawn estimates are valid -/

def eqE (a b : Estimate) : Bool := !beforeE a b && !beforeE b a

theorem l06Find_is {l : List Estimate} (hl : l.length ≤ 1099511627776) (e : Estimate) : spec_l06Find l e = some (match (List.range l.length).find? (fun i => eqE (l.getD i default) e) with | some j => (j : Int) | none => -1) := by
  unfold spec_l06Find
  rw [while_find (step := spec_l06Find_l1 l e) (fun i => eqE (l.getD i default) e) (fun j => (j : Int)) l.length
    (fun i hi => by
      simp only [spec_l06Find_l1, ixOk_nat, hi, decide_true, ck_true, Int.ofNat_lt, if_true, Int.toNat_natCast, wrap_nat1 (show i < 9223372036854775807 by omega), Before_is, Option.bind_some, Option.isSome_some, Option.getD_some, Bool.or_true]
      by_cases hh : eqE (l.getD i default) e = true
      · have hh2 : (!beforeE (l.getD i default) e && !beforeE e (l.getD i default)) = true := hh
        rw [if_pos hh, if_pos hh2]
      · have hh2 : ¬ (!beforeE (l.getD i default) e && !beforeE e (l.getD i default)) = true := hh
        rw [if_neg hh, if_neg hh2])
    (by simp [spec_l06Find_l1])]
  cases (List.range l.length).find? (fun i => eqE (l.getD i default) e) <;> rfl

theorem l06Put_loop {l : List Estimate} (hl : l.length ≤ 1000) (e : Estimate) : ∀ k : Nat, k ≤ l.length → (k < l.length → beforeE e (l.getD k default) = true) →
    ∃ k' : Nat, k' ≤ l.length ∧ whileE (spec_l06Put_l1 l e) (k : Int) = some (k' : Int) ∧ (k' < l.length → beforeE e (l.getD k' default) = true) ∧ (0 < k' → beforeE e (l.getD (k' - 1) default) = false)
  | 0, hk, hb => ⟨0, hk, whileE_done (by simp [spec_l06Put_l1, ck_true]), hb, fun h => by omega⟩
  | k + 1, hk, hb => by
    have e0 : decide ((0 : Int) < ((k + 1 : Nat) : Int)) = true := decide_eq_true (by omega)
    have w1 : IntKind.i64.wrap (((k + 1 : Nat) : Int) - 1) = (k : Int) := by rw [wrap_i64 (by omega) (by omega)]; omega
    have ok1 : ixOk (k : Int) l.length = true := by rw [ixOk_nat]; simp; omega
    cases hbe : beforeE e (l.getD k default)
    · refine ⟨k + 1, hk, whileE_done ?_, hb, fun _ => by simpa using hbe⟩
      simp only [spec_l06Put_l1, e0, w1, ok1, Before_is, Int.toNat_natCast, hbe, Option.isSome_some, Option.getD_some, Bool.not_true, Bool.false_or, Bool.or_true, ck_true, Bool.and_false, Bool.false_eq_true, if_false]
    · rw [whileE_next (s' := (k : Int)) (by
        simp only [spec_l06Put_l1, e0, w1, ok1, Before_is, Int.toNat_natCast, hbe, Option.isSome_some, Option.getD_some, Bool.not_true, Bool.false_or, Bool.or_true, ck_true, Bool.and_true, if_true])]
      exact l06Put_loop hl e k (by omega) (fun _ => hbe)

theorem put_getD (l : List Estimate) (e : Estimate) {k : Nat} (hk : k ≤ l.length) (i : Nat) : (((l.take k) ++ [e]) ++ l.drop k).getD i default = if i < k then l.getD i default else if i = k then e else l.getD (i - 1) default := by
  have hlen : (l.take k).length = k := by simp; omega
  rw [List.append_assoc]
  by_cases c : i < k
  · rw [if_pos c, List.getD_eq_getElem?_getD, List.getD_eq_getElem?_getD, List.getElem?_append_left (by omega), List.getElem?_take_of_lt c]
  · rw [if_neg c, List.getD_eq_getElem?_getD, List.getElem?_append_right (by omega), hlen]
    by_cases c2 : i = k
    · subst c2; rw [if_pos rfl, Nat.sub_self]; rfl
    · rw [if_neg c2]
      obtain ⟨j, rfl⟩ : ∃ j, i = k + (j + 1) := ⟨i - k - 1, by omega⟩
      rw [show k + (j + 1) - k = j + 1 by omega]
      show ((l.drop k)[j]?).getD default = _
      rw [List.getElem?_drop, List.getD_eq_getElem?_getD, show k + (j + 1) - 1 = k + j by omega]

theorem goodE_put {l : List Estimate} {e : Estimate} (hg : goodE l = true) (he : oneE e = true) {k : Nat} (hk : k ≤ l.length) (h1 : k < l.length → beforeE e (l.getD k default) = true) (h2 : 0 < k → beforeE (l.getD (k - 1) default) e = true) :
    goodE (((l.take k) ++ [e]) ++ l.drop k) = true := by
  have hat : ∀ i, i < l.length → oneE (l.getD i default) = true ∧ (0 < i → beforeE (l.getD (i - 1) default) (l.getD i default) = true) := by
    intro i hi
    unfold goodE at hg
    have := all_range' hg hi
    unfold okE at this
    simp only [Bool.and_eq_true, Bool.not_eq_true', Bool.and_eq_false_iff, decide_eq_false_iff_not, Bool.not_eq_false'] at this
    exact ⟨this.1, fun h0 => this.2.elim (fun c => absurd h0 c) id⟩
  unfold goodE
  rw [List.all_eq_true]
  intro i hi
  have hi' : i < l.length + 1 := by
    have : (((l.take k) ++ [e]) ++ l.drop k).length = l.length + 1 := by simp; omega
    rw [this] at hi; simpa using hi
  have okmk : ∀ A B : Bool, A = true → (0 < i → B = true) → (A && !(decide (0 < i) && !B)) = true := by
    intro A B hA hB
    rw [hA, Bool.true_and]
    by_cases c : 0 < i
    · rw [hB c]; simp
    · simp [c]
  unfold okE
  rw [put_getD l e hk, put_getD l e hk]
  refine okmk _ _ ?_ (fun h0 => ?_)
  · by_cases c : i < k
    · rw [if_pos c]; exact (hat i (by omega)).1
    · rw [if_neg c]
      by_cases c2 : i = k
      · rw [if_pos c2]; exact he
      · rw [if_neg c2]; exact (hat (i - 1) (by omega)).1
  · by_cases c : i < k
    · rw [if_pos (show i - 1 < k by omega), if_pos c]; exact (hat i (by omega)).2 h0
    · rw [if_neg c]
      by_cases c2 : i = k
      · rw [if_pos c2, if_pos (show i - 1 < k by omega), c2]; exact h2 (by omega)
      · rw [if_neg c2]
        by_cases c3 : i - 1 = k
        · rw [if_neg (show ¬ i - 1 < k by omega), if_pos c3, c3]; exact h1 (by omega)
        · rw [if_neg (show ¬ i - 1 < k by omega), if_neg c3]
          exact (hat (i - 1) (by omega)).2 (by omega)

theorem l06Put_is {l : List Estimate} {e : Estimate} (hl : l.length ≤ 1000) (hg : goodE l = true) (he : oneE e = true) (hf : ∀ i, i < l.length → eqE (l.getD i default) e = false) :
    ∃ l', spec_l06Put l e = some l' ∧ goodE l' = true ∧ l'.length = l.length + 1 := by
  obtain ⟨k, hk, hw, h1, h2⟩ := l06Put_loop hl e l.length (Nat.le_refl _) (fun h => by omega)
  refine ⟨((l.take k) ++ [e]) ++ l.drop k, ?_, goodE_put hg he hk h1 (fun h0 => ?_), by simp; omega⟩
  · unfold spec_l06Put
    rw [hw]
    simp only [Option.bind_some]
    rw [cutOk_of (by omega) (by omega) (by omega), ck_true, appOk_of (by simp [cut]; omega), ck_true, appOk_of (by simp [cut]; omega), ck_true, cutOk_of (by omega) (by omega) (by omega), ck_true, appOk_of (by simp [cut]; omega), ck_true]
    simp [cut]
  · have := hf (k - 1) (by omega)
    unfold eqE at this
    rw [h2 h0] at this
    simpa using this

theorem stars_good : ∀ i : Fin 3, nameB (([[109, 105, 114, 97], [114, 114, 45, 108, 121, 114], [115, 115, 45, 99, 121, 103]] : List (List UInt8)).getD i.val default) = true := by decide +kernel
theorem people_good : ∀ i : Fin 3, nameB (([[97, 98], [99, 100], [101]] : List (List UInt8)).getD i.val default) = true := by decide +kernel

theorem mem_good {l : List (List UInt8)} {n : List UInt8} (hn : n ∈ l) {m : Nat} (hm : l.length = m) (h : ∀ i : Fin m, nameB (l.getD i.val default) = true) : nameB n = true := by
  obtain ⟨i, hi, rfl⟩ := List.getElem_of_mem hn
  have := h ⟨i, by omega⟩
  rwa [getD_lt hi] at this

theorem oneE_mk {t : Int} {s o : List UInt8} {g : Int} {f : Bool} (h1 : 0 ≤ t) (h2 : t ≤ 10000000) (hs : nameB s = true) (ho : nameB o = true) (h3 : -2000 ≤ g) (h4 : g ≤ 20000) : oneE ⟨t, s, o, g, f⟩ = true := by
  unfold oneE
  simp only [hs, ho, Bool.and_true, Bool.and_eq_true, decide_eq_true_eq]
  exact ⟨⟨h1, h2⟩, h3, h4⟩

theorem l06New_is {m : Nat} {s : L00Src} (h : SrcN (m + 20) s) : ∃ e s', spec_l06New s = some (e, s') ∧ oneE e = true ∧ SrcN m s' := by
  unfold spec_l06New
  obtain ⟨t, s1, e1, p1, q1, _, h1⟩ := pick_is (m := m + 18) h (n := 30) (by omega)
  have := q1 (by omega)
  obtain ⟨c, s2, e2, h2⟩ := one_is (m := m + 16) h1 (n := 2) (by omega)
  simp only [e1, e2, Option.bind_some]
  have rest : ∀ {m : Nat} {s : L00Src} (h : SrcN (m + 8) s) {t : Int} (t0 : 0 ≤ t) (t1 : t ≤ 100000), ∃ e s', ((spec_l00Src_text s ([([109, 105, 114, 97] : List UInt8), ([114, 114, 45, 108, 121, 114] : List UInt8), ([115, 115, 45, 99, 121, 103] : List UInt8)] : List (List UInt8))).bind fun y_5 =>
    (spec_l00Src_text y_5.2 ([([97, 98] : List UInt8), ([99, 100] : List UInt8), ([101] : List UInt8)] : List (List UInt8))).bind fun y_6 =>
    (spec_l00Src_pick y_6.2 60).bind fun y_7 =>
    (spec_l00Src_one y_7.2 5).bind fun y_8 =>
    some ((Estimate.mk t y_5.1 y_6.1 (IntKind.i64.wrap (8000 + (IntKind.i64.wrap (50 * y_7.1)))) y_8.1), y_8.2)) = some (e, s') ∧ oneE e = true ∧ SrcN m s' := by
    intro m s h t t0 t1
    obtain ⟨n1, s1, e1, g1, h1⟩ := text_is (m := m + 6) h (l := ([([109, 105, 114, 97] : List UInt8), ([114, 114, 45, 108, 121, 114] : List UInt8), ([115, 115, 45, 99, 121, 103] : List UInt8)] : List (List UInt8))) (by decide) (by decide)
    obtain ⟨n2, s2, e2, g2, h2⟩ := text_is (m := m + 4) h1 (l := ([([97, 98] : List UInt8), ([99, 100] : List UInt8), ([101] : List UInt8)] : List (List UInt8))) (by decide) (by decide)
    obtain ⟨v, s3, e3, p3, q3, _, h3⟩ := pick_is (m := m + 2) h2 (n := 60) (by omega)
    have := q3 (by omega)
    obtain ⟨c, s4, e4, h4⟩ := one_is (m := m) h3 (n := 5) (by omega)
    simp only [e1, e2, e3, e4, Option.bind_some]
    rw [wrap_i64 (n := 50 * v) (by omega) (by omega), wrap_i64 (n := 8000 + 50 * v) (by omega) (by omega)]
    exact ⟨_, _, rfl, oneE_mk t0 (by omega) (mem_good g1 rfl stars_good) (mem_good g2 rfl people_good) (by omega) (by omega), h4⟩
  rw [wrap_i64 (n := 1000 * t) (by omega) (by omega)]
  cases c
  · simp only [Bool.false_eq_true, if_false]
    obtain ⟨e, s', a1, a2, a3⟩ := rest (m := m + 8) h2 (t := 1000 * t) (by omega) (by omega)
    exact ⟨e, s', a1, a2, a3.le (by omega)⟩
  · obtain ⟨u, s3, e3, p3, q3, _, h3⟩ := pick_is (m := m + 14) h2 (n := 3000) (by omega)
    have := q3 (by omega)
    simp only [if_true, e3, Option.bind_some]
    rw [wrap_i64 (n := 1000 * t + u) (by omega) (by omega)]
    obtain ⟨e, s', a1, a2, a3⟩ := rest (m := m + 6) h3 (t := 1000 * t + u) (by omega) (by omega)
    exact ⟨e, s', a1, a2, a3.le (by omega)⟩

theorem l06Draw_is {m : Nat} {s : L00Src} (h : SrcN (m + 400) s) {most : Nat} (hmost : most ≤ 12) : ∃ l s', spec_l06Draw s (most : Int) = some (l, s') ∧ goodE l = true ∧ l.length ≤ most ∧ SrcN m s' := by
  unfold spec_l06Draw
  have w13 : IntKind.i64.wrap ((most : Int) + 1) = (most : Int) + 1 := wrap_i64 (by omega) (by omega)
  obtain ⟨n, s1, e1, p1, q1, _, h1⟩ := pick_is (m := m + 390) (h.le (by omega)) (n := (most : Int) + 1) (by omega)
  have := q1 (by omega)
  simp only [Option.bind_some, w13, e1]
  obtain ⟨y, hy, hq⟩ := while_post (step := spec_l06Draw_l1)
    (fun x => 0 ≤ x.2.2 ∧ (x.2.1.length : Int) + x.2.2 ≤ most ∧ SrcN (m + 30 * x.2.2.toNat) x.1 ∧ goodE x.2.1 = true) (fun y => goodE y.2 = true ∧ y.2.length ≤ most ∧ SrcN m y.1) (fun x => x.2.2.toNat) (by
    rintro ⟨s, out, k⟩ ⟨k0, k1, hs, hg⟩
    simp only at k0 k1 hs hg
    by_cases c : 0 < k
    · left
      obtain ⟨e, s', e2, he, h2⟩ := l06New_is (m := m + 30 * (k - 1).toNat) (hs.le (by omega))
      have w : IntKind.i64.wrap (k - 1) = k - 1 := wrap_i64 (by omega) (by omega)
      simp only [spec_l06Draw_l1, c, decide_true, if_true, e2, Option.bind_some, w]
      rw [l06Find_is (by omega)]
      cases hfd : (List.range out.length).find? (fun i => eqE (out.getD i default) e) with
      | some j =>
        have : ¬ (j : Int) < 0 := by omega
        simp only [Option.bind_some, this, decide_false, Bool.false_eq_true, if_false]
        exact ⟨_, rfl, ⟨by show 0 ≤ k - 1; omega, by show (out.length : Int) + (k - 1) ≤ most; omega, h2, hg⟩, by show (k - 1).toNat < k.toNat; omega⟩
      | none =>
        rw [List.find?_eq_none] at hfd
        obtain ⟨l', e3, hg3, hl3⟩ := l06Put_is (l := out) (by omega) hg he (fun i hi => by simpa using hfd i (by simpa using hi))
        have : decide ((-1 : Int) < 0) = true := by decide
        simp only [Option.bind_some, this, if_true, e3]
        exact ⟨_, rfl, ⟨by show 0 ≤ k - 1; omega, by show (l'.length : Int) + (k - 1) ≤ most; omega, h2, hg3⟩, by show (k - 1).toNat < k.toNat; omega⟩
    · right
      exact ⟨(s, out), by simp [spec_l06Draw_l1, c], hg, by show out.length ≤ most; omega, hs.le (by omega)⟩) (s := (s1, [], n)) ⟨p1, by show ((([] : List Estimate).length : Nat) : Int) + n ≤ most; simp; omega, h1.le (by show m + 30 * n.toNat ≤ m + 390; omega), rfl⟩
  rw [hy]
  exact ⟨y.2, y.1, rfl, hq.1, hq.2.1, hq.2.2⟩

/-! ### Times -/

theorem goodE_nb {l : List Estimate} (hg : goodE l = true) {i : Nat} (hi : i < l.length) : oneE (l.getD i default) = true ∧ (0 < i → (l.getD (i - 1) default).Time ≤ (l.getD i default).Time) := by
  unfold goodE at hg
  have := all_range' hg hi
  unfold okE at this
  simp only [Bool.and_eq_true, Bool.not_eq_true', Bool.and_eq_false_iff, decide_eq_false_iff_not, Bool.not_eq_false'] at this
  refine ⟨this.1, fun h0 => ?_⟩
  have hb : beforeE (l.getD (i - 1) default) (l.getD i default) = true := this.2.elim (fun c => absurd h0 c) id
  unfold beforeE at hb
  split at hb
  · omega
  · have := of_decide_eq_true hb; omega

theorem times_rise {l : List Estimate} (hg : goodE l = true) : ∀ (d i : Nat), i + d < l.length → (l.getD i default).Time ≤ (l.getD (i + d) default).Time
  | 0, i, _ => Int.le_refl _
  | d + 1, i, h => by
    have h1 := times_rise hg d i (by omega)
    have h2 := (goodE_nb hg (show i + (d + 1) < l.length from h)).2 (by omega)
    rw [show i + (d + 1) - 1 = i + d by omega] at h2
    omega

theorem oneE_in {e : Estimate} (h : oneE e = true) : 0 ≤ e.Time ∧ e.Time ≤ 10000000 ∧ -2000 ≤ e.Mag ∧ e.Mag ≤ 20000 := by
  unfold oneE at h
  simp only [Bool.and_eq_true, decide_eq_true_eq] at h
  exact ⟨h.1.1.1.1, h.1.1.1.2, h.2.1, h.2.2⟩

end Go.Proofs.YtpnomhinhcochaaGreatDoor

