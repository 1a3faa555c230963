/- Plain lemmas, several texts in one. No condition. -/
import Derived.Test.YtegelahoakkaaaaGreatDoorOLL
import Derived.Test.YtegelahoakkaaaaGreatDoorHPA
import Derived.Test.YtegelahoakkaaaaGreatDoorHPB
/- What typed forms say: choices drawn from bytes. No condition. -/
namespace Go.Proofs.YtegelahoakkaaaaGreatDoor
open Go Go.RowKit
set_option linter.unusedSimpArgs false
set_option linter.unusedVariables false

def SrcN (m : Nat) (s : L00Src) : Prop := 0 ≤ s.at_ ∧ s.at_ + m ≤ 1000000000000 ∧ s.code_.length ≤ 1099511627776

theorem SrcN.le {m n : Nat} {s : L00Src} (h : SrcN m s) (hn : n ≤ m) : SrcN n s := ⟨h.1, by have := h.2.1; omega, h.2.2⟩

theorem From_is (c : List UInt8) : spec_l00From c = some ⟨c, 0, 0⟩ := id rfl

theorem srcN_from {c : List UInt8} (h : c.length ≤ 1099511627776) : SrcN 900000000000 ⟨c, 0, 0⟩ := ⟨by show (0 : Int) ≤ 0; omega, by show (0 : Int) + _ ≤ _; omega, h⟩

theorem and255 (n : Int) : 0 ≤ IntKind.u64.wrap (BitVec.ofInt (IntKind.bits .u64) n &&& BitVec.ofInt (IntKind.bits .u64) 255).toNat ∧ IntKind.u64.wrap (BitVec.ofInt (IntKind.bits .u64) n &&& BitVec.ofInt (IntKind.bits .u64) 255).toNat ≤ 255 := by
  have h : (BitVec.ofInt (IntKind.bits .u64) n &&& BitVec.ofInt (IntKind.bits .u64) 255).toNat ≤ 255 := by
    rw [BitVec.toNat_and]
    refine Nat.le_trans Nat.and_le_right ?_
    decide
  generalize (BitVec.ofInt (IntKind.bits .u64) n &&& BitVec.ofInt (IntKind.bits .u64) 255).toNat = q at h ⊢
  unfold IntKind.wrap IntKind.bits
  simp [IntKind.signed]
  omega

theorem next_is {m : Nat} {s : L00Src} (h : SrcN (m + 1) s) : ∃ v s', spec_l00Src_next s = some (v, s') ∧ 0 ≤ v ∧ v ≤ 255 ∧ SrcN m s' := by
  obtain ⟨c, at_, seed⟩ := s
  obtain ⟨h1, h2, h3⟩ := h
  simp only at h1 h2 h3
  have w : IntKind.i64.wrap (at_ + 1) = at_ + 1 := wrap_i64 (by omega) (by omega)
  have hn : ∀ z, SrcN m ⟨c, at_ + 1, z⟩ := fun z => ⟨by show 0 ≤ at_ + 1; omega, by show at_ + 1 + (m : Int) ≤ _; omega, h3⟩
  have w255 : ∀ n, IntKind.i64.wrap (IntKind.u64.wrap (BitVec.ofInt (IntKind.bits .u64) n &&& BitVec.ofInt (IntKind.bits .u64) 255).toNat) = IntKind.u64.wrap (BitVec.ofInt (IntKind.bits .u64) n &&& BitVec.ofInt (IntKind.bits .u64) 255).toNat := fun n => by
    have := and255 n
    exact wrap_i64 (by omega) (by omega)
  unfold spec_l00Src_next
  simp only [w]
  by_cases c1 : at_ < (c.length : Int)
  · have b := u8_lt (c.getD at_.toNat default)
    have c2 : at_ + 1 ≤ (c.length : Int) := by omega
    rw [ixOk_of h1 (by omega)]
    simp only [c1, c2, decide_true, if_true, ck_true]
    exact ⟨_, _, rfl, by omega, by omega, hn _⟩
  · simp only [c1, decide_false, Bool.false_eq_true, if_false]
    have c2 : ¬ at_ + 1 ≤ (c.length : Int) := by omega
    simp only [c2, decide_false, Bool.false_eq_true, if_false]
    rw [shOk_of (by omega), ck_true, w255]
    exact ⟨_, _, rfl, (and255 _).1, (and255 _).2, hn _⟩

theorem pick_is {m : Nat} {s : L00Src} (h : SrcN (m + 2) s) {n : Int} (hn : n ≤ 9223372036854775807) : ∃ v s', spec_l00Src_pick s n = some (v, s') ∧ 0 ≤ v ∧ (1 ≤ n → v < n) ∧ (n ≤ 1 → v = 0) ∧ SrcN m s' := by
  unfold spec_l00Src_pick
  by_cases c : n ≤ 1
  · simp only [c, decide_true, if_true]
    exact ⟨0, s, rfl, by omega, by omega, fun _ => rfl, h.le (by omega)⟩
  · obtain ⟨v1, s1, e1, a1, b1, h1⟩ := next_is h
    obtain ⟨v2, s2, e2, a2, b2, h2⟩ := next_is h1
    simp only [c, decide_false, Bool.false_eq_true, if_false, e1, Option.bind_some]
    by_cases c2 : 200 < n
    · have w1 : IntKind.i64.wrap (v1 * 256) = v1 * 256 := wrap_i64 (by omega) (by omega)
      have w2 : IntKind.i64.wrap (v1 * 256 + v2) = v1 * 256 + v2 := wrap_i64 (by omega) (by omega)
      simp only [c2, decide_true, if_true, e2, Option.bind_some, nz_of (show n ≠ 0 by omega), ck_true, w1, w2, Int.tmod_eq_emod_of_nonneg (show 0 ≤ v1 * 256 + v2 by omega)]
      exact ⟨_, _, rfl, Int.emod_nonneg _ (by omega), fun _ => Int.emod_lt_of_pos _ (by omega), fun hc => hc.elim, h2⟩
    · simp only [c2, decide_false, Bool.false_eq_true, if_false, nz_of (show n ≠ 0 by omega), ck_true, Int.tmod_eq_emod_of_nonneg a1]
      exact ⟨_, _, rfl, Int.emod_nonneg _ (by omega), fun _ => Int.emod_lt_of_pos _ (by omega), fun hc => hc.elim, h1.le (by omega)⟩

end Go.Proofs.YtegelahoakkaaaaGreatDoor

/- What typed forms say: one of some numbers. No condition. -/
namespace Go.Proofs.YtegelahoakkaaaaGreatDoor
open Go Go.RowKit
set_option linter.unusedSimpArgs false
set_option linter.unusedVariables false

theorem among_is {m : Nat} {s : L00Src} (h : SrcN (m + 2) s) {l : List Int} (h1 : 1 ≤ l.length) (h2 : l.length ≤ 1000) : ∃ v s', spec_l00Src_among s l = some (v, s') ∧ v ∈ l ∧ SrcN m s' := by
  obtain ⟨v, s', e, a, b, _, h'⟩ := pick_is h (n := (l.length : Int)) (by omega)
  have := b (by omega)
  unfold spec_l00Src_among
  rw [e]
  simp only [Option.bind_some]
  rw [ixOk_of a (by omega), ck_true]
  exact ⟨_, s', rfl, getD_mem (by omega) _, h'⟩

end Go.Proofs.YtegelahoakkaaaaGreatDoor

/- What typed forms say: one of the drawn. No condition. -/
namespace Go.Proofs.YtegelahoakkaaaaGreatDoor
open Go Go.RowKit
set_option linter.unusedSimpArgs false
set_option linter.unusedVariables false

theorem one_is {m : Nat} {s : L00Src} (h : SrcN (m + 2) s) {n : Int} (hn : n ≤ 9223372036854775807) : ∃ v s', spec_l00Src_one s n = some (v, s') ∧ SrcN m s' := by
  obtain ⟨v, s', e, _, _, _, h'⟩ := pick_is h hn
  exact ⟨v == 0, s', by unfold spec_l00Src_one; rw [e]; rfl, h'⟩

end Go.Proofs.YtegelahoakkaaaaGreatDoor

/- What typed forms say: one of some texts. No condition. -/
namespace Go.Proofs.YtegelahoakkaaaaGreatDoor
open Go Go.RowKit
set_option linter.unusedSimpArgs false
set_option linter.unusedVariables false

theorem text_is {m : Nat} {s : L00Src} (h : SrcN (m + 2) s) {l : List (List UInt8)} (h1 : 1 ≤ l.length) (h2 : l.length ≤ 1000) : ∃ v s', spec_l00Src_text s l = some (v, s') ∧ v ∈ l ∧ SrcN m s' := by
  obtain ⟨v, s', e, a, b, _, h'⟩ := pick_is h (n := (l.length : Int)) (by omega)
  have := b (by omega)
  unfold spec_l00Src_text
  rw [e]
  simp only [Option.bind_some]
  rw [ixOk_of a (by omega), ck_true]
  exact ⟨_, s', rfl, getD_mem (by omega) _, h'⟩

end Go.Proofs.YtegelahoakkaaaaGreatDoor

/- What typed forms say: a drawn text is spoilt. No condition. -/
namespace Go.Proofs.YtegelahoakkaaaaGreatDoor
open Go Go.RowKit
set_option linter.unusedSimpArgs false
set_option linter.unusedVariables false

theorem l01Spoil_is {m : Nat} {s : L00Src} (h : SrcN (m + 6) s) {t : List UInt8} (ht : t.length ≤ 1000000) : ∃ l s', spec_l01Spoil s t = some (l, s') ∧ l.length ≤ t.length + 1 := by
  unfold spec_l01Spoil
  obtain ⟨v, s1, e1, v0, v1, _, h1⟩ := pick_is (m := m + 4) h (n := 5) (by omega)
  simp only [e1, Option.bind_some]
  by_cases c0 : (v == 0) = true
  · have w : IntKind.i64.wrap ((t.length : Int) + 1) = (t.length : Int) + 1 := wrap_i64 (by omega) (by omega)
    obtain ⟨a, s2, e2, a0, a1, _, h2⟩ := pick_is (m := m + 2) h1 (n := (t.length : Int) + 1) (by omega)
    have a2 := a1 (by omega)
    obtain ⟨x, s3, e3, hx, _⟩ := text_is (m := m) h2 (l := [([32] : List UInt8), ([48] : List UInt8), ([45] : List UInt8), ([120] : List UInt8), ([49] : List UInt8), ([57] : List UInt8), ([46] : List UInt8)]) (by simp) (by simp)
    have hx1 : x.length = 1 := by
      simp only [List.mem_cons, List.not_mem_nil, or_false] at hx
      rcases hx with rfl | rfl | rfl | rfl | rfl | rfl | rfl <;> rfl
    have l1 : (cut t 0 a).length ≤ a.toNat := by simp [cut]; omega
    have l2 : (cut t a (t.length : Int)).length ≤ t.length - a.toNat := by simp [cut]
    simp only [c0, if_true, w, e2, e3, Option.bind_some]
    rw [cutOk_of (by omega) a0 (by omega), ck_true, ck_of (show catOk _ _ = true by simp [catOk]; omega), cutOk_of a0 (by omega) (by omega), ck_true, ck_of (show catOk _ _ = true by simp only [catOk, List.length_append]; simp; omega)]
    exact ⟨_, _, rfl, by simp only [List.length_append]; omega⟩
  · by_cases c1 : (v == 1) = true
    · by_cases ct : t = []
      · subst ct
        simp only [c0, c1, if_true]
        exact ⟨_, _, rfl, by simp⟩
      · have hb : (!(t == ([] : List UInt8))) = true := by simpa using ct
        have hp : 0 < t.length := by cases t with | nil => exact absurd rfl ct | cons => simp
        obtain ⟨a, s2, e2, a0, a1, _, h2⟩ := pick_is (m := m + 2) h1 (n := (t.length : Int)) (by omega)
        have a2 := a1 (by omega)
        have w : IntKind.i64.wrap (a + 1) = a + 1 := wrap_i64 (by omega) (by omega)
        have l1 : (cut t 0 a).length ≤ a.toNat := by simp [cut]; omega
        have l2 : (cut t (a + 1) (t.length : Int)).length ≤ t.length - (a + 1).toNat := by simp [cut]
        simp only [c0, c1, hb, if_true, if_false, Bool.false_eq_true, e2, Option.bind_some, w]
        rw [cutOk_of (by omega) a0 (by omega), ck_true, cutOk_of (by omega) (by omega) (by omega), ck_true, ck_of (show catOk _ _ = true by simp [catOk]; omega)]
        exact ⟨_, _, rfl, by simp only [List.length_append]; omega⟩
    · simp only [c0, c1, if_false, Bool.false_eq_true]
      exact ⟨_, _, rfl, by omega⟩

end Go.Proofs.YtegelahoakkaaaaGreatDoor

/- What typed forms say: drawn observers. No condition. -/
namespace Go.Proofs.YtegelahoakkaaaaGreatDoor
open Go Go.RowKit
set_option linter.unusedSimpArgs false
set_option linter.unusedVariables false

def smallO (x : Observer) : Prop := x.Name.length ≤ 1000 ∧ R64 x.Shift

theorem small_get {l : List Observer} (h : ∀ x ∈ l, smallO x) {i : Nat} (hi : i < l.length) : smallO (l.getD i default) := h _ (getD_mem hi default)

theorem small_set {l : List Observer} (h : ∀ x ∈ l, smallO x) (i : Nat) {v : Observer} (hv : smallO v) : ∀ x ∈ l.set i v, smallO x := by
  intro x hx
  rcases List.mem_or_eq_of_mem_set hx with a | a
  · exact h x a
  · rw [a]; exact hv

theorem small_app {l : List Observer} (h : ∀ x ∈ l, smallO x) {v : Observer} (hv : smallO v) : ∀ x ∈ l ++ [v], smallO x := by
  intro x hx
  rcases List.mem_append.1 hx with a | a
  · exact h x a
  · rw [List.mem_singleton.1 a]; exact hv

theorem text_len {x : List UInt8} {l : List (List UInt8)} (h : x ∈ l) (hl : l.all (fun y => decide (y.length ≤ 1000)) = true) : x.length ≤ 1000 := by
  have := List.all_eq_true.1 hl x h
  exact of_decide_eq_true this

theorem drawO_loop {m : Nat} {s : L00Src} (ns : List (List UInt8)) (hn : ns.length = 6) (hns : ns.all (fun y => decide (y.length ≤ 1000)) = true) (h : SrcN (m + 200) s) : ∃ l s', whileE (spec_l05Draw_l1 ns) (s, ([] : List Observer), 0) = some (s', l) ∧ l.length ≤ 6 ∧ (∀ x ∈ l, smallO x) ∧ SrcN m s' := by
  obtain ⟨y, hy, hq⟩ := while_post (step := spec_l05Draw_l1 ns) (fun x => ∃ k : Nat, x.2.2 = (k : Int) ∧ k ≤ 6 ∧ x.2.1.length ≤ k ∧ (∀ o ∈ x.2.1, smallO o) ∧ SrcN (m + 4 * (6 - k)) x.1) (fun y => y.2.length ≤ 6 ∧ (∀ o ∈ y.2, smallO o) ∧ SrcN m y.1) (fun x => 6 - x.2.2.toNat) (by
    rintro ⟨s, l, i⟩ ⟨k, rfl, hk, hl, ho, hs⟩
    simp only at hl ho hs
    by_cases c : k < 6
    · have c' : (k : Int) < (ns.length : Int) := by omega
      obtain ⟨b, s1, e1, h1⟩ := one_is (m := m + 4 * (6 - (k + 1)) + 2) (hs.le (by omega)) (n := 3) (by omega)
      simp only [spec_l05Draw_l1, c', decide_true, if_true, e1, Option.bind_some, wrap_nat1 (show k < 9223372036854775807 by omega)]
      left
      cases b
      · simp only [Bool.false_eq_true, if_false]
        obtain ⟨v, s2, e2, v0, v1, _, h2⟩ := pick_is (m := m + 4 * (6 - (k + 1))) h1 (n := 60) (by omega)
        have v2 := v1 (by omega)
        rw [ixOk_of (by omega) (by omega), ck_true, Int.toNat_natCast, e2, Option.bind_some, appOk_of (by simp; omega), ck_true]
        exact ⟨_, rfl, ⟨k + 1, rfl, by omega, by simp; omega, small_app ho ⟨text_len (getD_mem (by omega) default) hns, wrap_in _⟩, h2⟩, by simp only [Int.toNat_natCast]; omega⟩
      · simp only [if_true]
        exact ⟨_, rfl, ⟨k + 1, rfl, by omega, by simp only; omega, ho, h1.le (by omega)⟩, by simp only [Int.toNat_natCast]; omega⟩
    · right
      have c' : ¬ (k : Int) < (ns.length : Int) := by omega
      exact ⟨(s, l), by simp [spec_l05Draw_l1, c'], by simp only; omega, ho, hs.le (by omega)⟩) (s := (s, ([] : List Observer), 0)) ⟨0, rfl, by omega, by simp, by simp, h.le (by omega)⟩
  exact ⟨y.2, y.1, hy, hq.1, hq.2.1, hq.2.2⟩

theorem l05Draw_is {m : Nat} {s : L00Src} (h : SrcN (m + 200) s) : ∃ l s', spec_l05Draw s = some (l, s') ∧ l.length ≤ 6 ∧ (∀ x ∈ l, smallO x) ∧ SrcN m s' := by
  unfold spec_l05Draw spec_l05Names
  obtain ⟨l, s', e, a, b, c⟩ := drawO_loop ([([97, 98] : List UInt8), ([99, 100, 45, 49] : List UInt8), ([101, 118, 101] : List UInt8), ([107, 105, 109] : List UInt8), ([108, 111, 117] : List UInt8), ([122, 101, 100] : List UInt8)] : List (List UInt8)) (by rfl) (by decide) h
  rw [Option.bind_some, e]
  exact ⟨l, s', rfl, a, b, c⟩

theorem bentO_loop (s : L00Src) {n : Int} (h0 : 0 ≤ n) (h1 : n ≤ 42) : ∃ l, whileE (spec_l05Bent_l1 s) (([] : List Observer), n) = some l ∧ l.length ≤ 42 ∧ ∀ x ∈ l, smallO x := by
  obtain ⟨y, hy, q⟩ := while_post (step := spec_l05Bent_l1 s) (fun x => 0 ≤ x.2 ∧ (x.1.length : Int) + x.2 ≤ 42 ∧ ∀ o ∈ x.1, smallO o) (fun y => y.length ≤ 42 ∧ ∀ o ∈ y, smallO o) (fun x => x.2.toNat) (by
    rintro ⟨l, k⟩ ⟨k0, k1, ho⟩
    simp only at k0 k1 ho
    by_cases c : 0 < k
    · left
      simp only [spec_l05Bent_l1, c, decide_true, if_true]
      rw [nz_of (by omega), ck_true, catOk_of (by simp), ck_true, appOk_of (by simp; omega), ck_true, wrap_i64 (n := k - 1) (by omega) (by omega)]
      exact ⟨_, rfl, ⟨by show 0 ≤ k - 1; omega, by show ((l ++ [_]).length : Int) + (k - 1) ≤ 42; simp; omega, small_app ho ⟨by simp, by constructor <;> (show _ ≤ _; simp only; omega)⟩⟩, by show (k - 1).toNat < k.toNat; omega⟩
    · right
      exact ⟨l, by simp [spec_l05Bent_l1, c], by omega, ho⟩) (s := (([] : List Observer), n)) ⟨h0, by simp; omega, by simp⟩
  exact ⟨y, hy, q⟩

theorem bentO_tail {m : Nat} {s : L00Src} (h : SrcN (m + 40) s) {l : List Observer} (hl : l.length ≤ 42) (ho : ∀ x ∈ l, smallO x) : ∃ l' s', (if ((l.length : Int) == 0) then
      some (l, s)
    else
      (spec_l00Src_pick s (l.length : Int)).bind fun y_11 =>
      ck (ixOk y_11.1 l.length) <|
      (spec_l00Src_pick y_11.2 16).bind fun y_13 =>
      if (y_13.1 == 0) then
        (spec_l00Src_text y_13.2 ([([] : List UInt8), ([65, 98] : List UInt8), ([97, 98] : List UInt8), ([122, 122] : List UInt8)] : List (List UInt8))).bind fun y_15 =>
        some ((l.set y_11.1.toNat (Observer.mk y_15.1 ((l.getD y_11.1.toNat default).Shift))), y_15.2)
      else
        if (y_13.1 == 1) then
          (spec_l00Src_among y_13.2 ([(-2001), (-2000), 0, 2000, 2001, (-9223372036854775808)] : List Int)).bind fun y_17 =>
          some ((l.set y_11.1.toNat (Observer.mk ((l.getD y_11.1.toNat default).Name) y_17.1)), y_17.2)
        else
          some (l, y_13.2)) = some (l', s') ∧ l'.length ≤ 42 ∧ (∀ x ∈ l', smallO x) ∧ SrcN m s' := by
  split
  · exact ⟨_, _, rfl, hl, ho, h.le (by omega)⟩
  · rename_i hz
    have hp : 0 < l.length := by
      rcases Nat.eq_zero_or_pos l.length with a | a
      · exact absurd (by simp [a]) hz
      · exact a
    obtain ⟨u, s1, e1, u0, u1, _, h1⟩ := pick_is (m := m + 38) h (n := (l.length : Int)) (by omega)
    have u2 := u1 (by omega)
    have hu : u.toNat < l.length := by omega
    have hg := small_get ho hu
    obtain ⟨v, s2, e2, _, _, _, h2⟩ := pick_is (m := m + 36) h1 (n := 16) (by omega)
    rw [e1, Option.bind_some]
    simp only
    rw [ixOk_of u0 u2, ck_true, e2, Option.bind_some]
    simp only
    split
    · obtain ⟨x, s3, e3, hx, h3⟩ := text_is (m := m + 30) (h2.le (by omega)) (l := [([] : List UInt8), ([65, 98] : List UInt8), ([97, 98] : List UInt8), ([122, 122] : List UInt8)]) (by simp) (by simp)
      rw [e3]
      exact ⟨_, _, rfl, by simp only [List.length_set]; exact hl, small_set ho _ ⟨text_len hx (by decide), hg.2⟩, h3.le (by omega)⟩
    · split
      · obtain ⟨x, s3, e3, hx, h3⟩ := among_is (m := m + 30) (h2.le (by omega)) (l := [(-2001), (-2000), 0, 2000, 2001, (-9223372036854775808)]) (by simp) (by simp)
        rw [e3]
        refine ⟨_, _, rfl, by simp only [List.length_set]; exact hl, small_set ho _ ⟨hg.1, ?_⟩, h3.le (by omega)⟩
        simp only [List.mem_cons, List.not_mem_nil, or_false] at hx
        show R64 x
        rcases hx with rfl | rfl | rfl | rfl | rfl | rfl <;> exact ⟨by decide, by decide⟩
      · exact ⟨_, _, rfl, hl, ho, h2.le (by omega)⟩

theorem l05Bent_is {m : Nat} {s : L00Src} (h : SrcN (m + 1000) s) : ∃ l s', spec_l05Bent s = some (l, s') ∧ l.length ≤ 42 ∧ (∀ x ∈ l, smallO x) ∧ SrcN m s' := by
  unfold spec_l05Bent
  obtain ⟨l, s1, e1, hl, ho, h1⟩ := l05Draw_is (m := m + 800) (h.le (by omega))
  obtain ⟨b, s2, e2, h2⟩ := one_is (m := m + 700) (h1.le (by omega)) (n := 24) (by omega)
  rw [e1, Option.bind_some]
  simp only
  rw [e2, Option.bind_some]
  simp only
  split
  · obtain ⟨u, s3, e3, u0, u1, _, h3⟩ := pick_is (m := m + 600) (h2.le (by omega)) (n := 2) (by omega)
    have u2 := u1 (by omega)
    rw [e3, Option.bind_some, wrap_i64 (n := 40 + u) (by omega) (by omega)]
    obtain ⟨q, e4, hq, hqo⟩ := bentO_loop s3 (n := 40 + u) (by omega) (by omega)
    simp only
    rw [e4, Option.bind_some]
    exact bentO_tail (h3.le (by omega)) hq hqo
  · exact bentO_tail (h2.le (by omega)) (by omega) ho

theorem l05Name_is {m : Nat} {s : L00Src} (h : SrcN (m + 2) s) : ∃ v s', spec_l05Name s = some (v, s') ∧ SrcN m s' := by
  unfold spec_l05Name
  obtain ⟨x, s2, e2, _, h2⟩ := text_is (m := m) h (l := [([97, 98] : List UInt8), ([99, 100, 45, 49] : List UInt8), ([101, 118, 101] : List UInt8), ([107, 105, 109] : List UInt8), ([110, 101, 119] : List UInt8), ([] : List UInt8), ([78, 101, 119] : List UInt8)]) (by simp) (by simp)
  rw [e2]; exact ⟨_, _, rfl, h2⟩

theorem DrawAdd_is {c : List UInt8} (h : c.length ≤ 1099511627776) : ∃ l x, spec_DrawAddObserver c = some (l, x) ∧ l.length ≤ 42 := by
  unfold spec_DrawAddObserver
  obtain ⟨l, s1, e1, hl, _, h1⟩ := l05Bent_is (m := 10000) ((srcN_from h).le (by omega))
  obtain ⟨n, s2, e2, h2⟩ := l05Name_is (m := 9000) (h1.le (by omega))
  obtain ⟨p, s3, e3, _, _, _, h3⟩ := pick_is (m := 8000) (h2.le (by omega)) (n := 100) (by omega)
  obtain ⟨b, s4, e4, h4⟩ := one_is (m := 7000) (h3.le (by omega)) (n := 12) (by omega)
  rw [From_is, Option.bind_some, e1, Option.bind_some, e2, Option.bind_some]
  simp only
  rw [e3, Option.bind_some, e4, Option.bind_some]
  simp only
  split
  · obtain ⟨x, s5, e5, _⟩ := among_is (m := 6000) (h4.le (by omega)) (l := [(-2001), 2000, 2001]) (by simp) (by simp)
    rw [e5]; exact ⟨_, _, rfl, hl⟩
  · exact ⟨_, _, rfl, hl⟩

theorem DrawNamed_is {c : List UInt8} (h : c.length ≤ 1099511627776) : ∃ l n, spec_DrawObserverNamed c = some (l, n) ∧ l.length ≤ 42 := by
  unfold spec_DrawObserverNamed
  obtain ⟨l, s1, e1, hl, _, h1⟩ := l05Bent_is (m := 10000) ((srcN_from h).le (by omega))
  obtain ⟨n, s2, e2, h2⟩ := l05Name_is (m := 9000) (h1.le (by omega))
  rw [From_is, Option.bind_some, e1, Option.bind_some, e2, Option.bind_some]
  exact ⟨_, _, rfl, hl⟩

theorem DrawCorrect_is {c : List UInt8} (h : c.length ≤ 1099511627776) : ∃ l n k, spec_DrawCorrectMag c = some (l, n, k) ∧ l.length ≤ 42 := by
  unfold spec_DrawCorrectMag
  obtain ⟨l, s1, e1, hl, _, h1⟩ := l05Bent_is (m := 10000) ((srcN_from h).le (by omega))
  obtain ⟨n, s2, e2, h2⟩ := l05Name_is (m := 9000) (h1.le (by omega))
  obtain ⟨b, s3, e3, h3⟩ := one_is (m := 7000) (h2.le (by omega)) (n := 6) (by omega)
  rw [From_is, Option.bind_some, e1, Option.bind_some, e2, Option.bind_some]
  simp only
  rw [e3, Option.bind_some]
  simp only
  split
  · obtain ⟨x, s5, e5, _⟩ := among_is (m := 6000) (h3.le (by omega)) (l := [(-2001), (-2000), 20000, 20001, (-9223372036854775808)]) (by simp) (by simp)
    rw [e5]; exact ⟨_, _, _, rfl, hl⟩
  · unfold spec_l02Draw
    obtain ⟨b2, s4, e4, h4⟩ := one_is (m := 5000) (h3.le (by omega)) (n := 8) (by omega)
    rw [e4, Option.bind_some]
    simp only
    split
    · obtain ⟨p, s5, e5, _⟩ := pick_is (m := 4000) (h4.le (by omega)) (n := 22001) (by omega)
      rw [e5]; exact ⟨_, _, _, rfl, hl⟩
    · obtain ⟨p, s5, e5, _⟩ := pick_is (m := 4000) (h4.le (by omega)) (n := 60) (by omega)
      rw [e5]; exact ⟨_, _, _, rfl, hl⟩

theorem shifts_loop {m : Nat} {s : L00Src} {l : List Observer} (hl : l.length ≤ 42) (h : SrcN (m + 100) s) : ∃ sh s', whileE (spec_DrawApplyShifts_l1 l) (s, ([] : List Int), 0) = some (s', sh) ∧ sh.length ≤ 42 ∧ SrcN m s' := by
  obtain ⟨y, hy, hq⟩ := while_post (step := spec_DrawApplyShifts_l1 l) (fun x => ∃ k : Nat, x.2.2 = (k : Int) ∧ k ≤ l.length ∧ x.2.1.length ≤ k ∧ SrcN (m + 2 * (l.length - k)) x.1) (fun y => y.2.length ≤ 42 ∧ SrcN m y.1) (fun x => l.length - x.2.2.toNat) (by
    rintro ⟨s, sh, i⟩ ⟨k, rfl, hk, hsl, hs⟩
    simp only at hsl hs
    by_cases c : k < l.length
    · have c' : (k : Int) < (l.length : Int) := by omega
      obtain ⟨v, s2, e2, _, _, _, h2⟩ := pick_is (m := m + 2 * (l.length - (k + 1))) (hs.le (by omega)) (n := 100) (by omega)
      simp only [spec_DrawApplyShifts_l1, c', decide_true, if_true, e2, Option.bind_some, wrap_nat1 (show k < 9223372036854775807 by omega)]
      left
      rw [appOk_of (by simp; omega), ck_true]
      exact ⟨_, rfl, ⟨k + 1, rfl, by omega, by simp; omega, h2⟩, by simp only [Int.toNat_natCast]; omega⟩
    · right
      have c' : ¬ (k : Int) < (l.length : Int) := by omega
      exact ⟨(s, sh), by simp [spec_DrawApplyShifts_l1, c'], by simp only; omega, hs.le (by omega)⟩) (s := (s, ([] : List Int), 0)) ⟨0, rfl, by omega, by simp, h.le (by omega)⟩
  exact ⟨y.2, y.1, hy, hq.1, hq.2⟩

theorem DrawApply_is {c : List UInt8} (h : c.length ≤ 1099511627776) : ∃ l sh, spec_DrawApplyShifts c = some (l, sh) ∧ l.length ≤ 42 ∧ sh.length ≤ 43 := by
  unfold spec_DrawApplyShifts
  obtain ⟨l, s1, e1, hl, _, h1⟩ := l05Bent_is (m := 10000) ((srcN_from h).le (by omega))
  obtain ⟨sh, s2, e2, hs, h2⟩ := shifts_loop (m := 9000) hl (h1.le (by omega))
  obtain ⟨b, s3, e3, h3⟩ := one_is (m := 8000) (h2.le (by omega)) (n := 12) (by omega)
  rw [From_is, Option.bind_some, e1, Option.bind_some]
  simp only
  rw [e2, Option.bind_some]
  simp only
  rw [e3, Option.bind_some]
  have tail : ∀ {s : L00Src} (q : List Int), SrcN 8000 s → q.length ≤ 43 → ∃ a b, (if (decide (0 < (q.length : Int))) then
      (spec_l00Src_one s 8).bind fun y_16 =>
      if ((decide (0 < (q.length : Int))) && y_16.1) then
        (spec_l00Src_among y_16.2 ([(-2001), (-2000), 2000, 2001] : List Int)).bind fun y_18 =>
        ck (ixOk 0 q.length) <|
        some (l, (q.set 0 y_18.1))
      else
        some (l, q)
    else
      some (l, q)) = some (a, b) ∧ a.length ≤ 42 ∧ b.length ≤ 43 := by
    intro s q hs hq
    split
    · rename_i hp
      have hp : 0 < (q.length : Int) := by simpa using hp
      obtain ⟨b, s4, e4, h4⟩ := one_is (m := 7000) (hs.le (by omega)) (n := 8) (by omega)
      rw [e4, Option.bind_some]
      simp only
      split
      · obtain ⟨x, s5, e5, _⟩ := among_is (m := 6000) (h4.le (by omega)) (l := [(-2001), (-2000), 2000, 2001]) (by simp) (by simp)
        rw [e5, Option.bind_some, ixOk_of (by omega) (by omega), ck_true]
        exact ⟨_, _, rfl, hl, by rw [List.length_set]; exact hq⟩
      · exact ⟨_, _, rfl, hl, hq⟩
    · exact ⟨_, _, rfl, hl, hq⟩
  simp only
  split
  · rw [appOk_of (by simp; omega), ck_true]
    exact tail (sh ++ [1]) h3 (by simp; omega)
  · exact tail sh h3 (by omega)

theorem l05Other_is {m : Nat} {s : L00Src} (h : SrcN (m + 1100) s) : ∃ x s', spec_l05Other s = some (x, s') ∧ smallO x ∧ SrcN m s' := by
  unfold spec_l05Other
  obtain ⟨l, s1, e1, hl, ho, h1⟩ := l05Bent_is (m := m + 100) (h.le (by omega))
  rw [e1, Option.bind_some]
  simp only
  split
  · exact ⟨_, _, rfl, ⟨by simp, ⟨by simp, by simp⟩⟩, h1.le (by omega)⟩
  · rename_i hz
    have hp : 0 < l.length := by
      rcases Nat.eq_zero_or_pos l.length with a | a
      · exact absurd (by simp [a]) hz
      · exact a
    obtain ⟨u, s2, e2, u0, u1, _, h2⟩ := pick_is (m := m + 90) (h1.le (by omega)) (n := (l.length : Int)) (by omega)
    have u2 := u1 (by omega)
    rw [e2, Option.bind_some]
    simp only
    rw [ixOk_of u0 u2, ck_true]
    exact ⟨_, _, rfl, small_get ho (by omega), h2.le (by omega)⟩

theorem DrawText_is {c : List UInt8} (h : c.length ≤ 1099511627776) : ∃ x, spec_DrawObserverText c = some x := by
  unfold spec_DrawObserverText
  obtain ⟨x, s1, e1, _, _⟩ := l05Other_is (m := 10000) ((srcN_from h).le (by omega))
  rw [From_is, Option.bind_some, e1]
  exact ⟨_, rfl⟩

theorem DrawRead_is {c : List UInt8} (h : c.length ≤ 1099511627776) : ∃ s, spec_DrawReadObserver c = some s ∧ s.length ≤ 1048576 := by
  unfold spec_DrawReadObserver
  obtain ⟨x, s1, e1, hx, h1⟩ := l05Other_is (m := 10000) ((srcN_from h).le (by omega))
  obtain ⟨b, s2, e2, h2⟩ := one_is (m := 9000) (h1.le (by omega)) (n := 3) (by omega)
  have hl := textO_len hx.2 hx.1
  rw [From_is, Option.bind_some, e1, Option.bind_some]
  simp only
  rw [l05Text_is hx.2 hx.1, Option.bind_some, e2, Option.bind_some]
  simp only
  split
  · obtain ⟨l, s3, e3, h3⟩ := l01Spoil_is (m := 100) (h2.le (by omega)) (t := textO x) (by omega)
    rw [e3]
    exact ⟨_, rfl, by simp only; omega⟩
  · exact ⟨_, rfl, by omega⟩

theorem DrawSameO_is {c : List UInt8} (h : c.length ≤ 1099511627776) : ∃ a b, spec_DrawSameObservers c = some (a, b) ∧ a.length ≤ 100 ∧ b.length ≤ 100 := by
  unfold spec_DrawSameObservers
  obtain ⟨l, s1, e1, hl, _, h1⟩ := l05Draw_is (m := 10000) ((srcN_from h).le (by omega))
  rw [From_is, Option.bind_some, e1, Option.bind_some]
  simp only [List.nil_append]
  rw [appOk_of (by simp; omega), ck_true]
  have tail : ∀ {m : Nat} {s : L00Src} (b : List Observer), SrcN (m + 2) s → b.length ≤ 60 → ∃ a' b', ((spec_l00Src_one s 5).bind fun y_12 =>
      if y_12.1 then
        ck (appOk (b.length + ([(Observer.mk [] 0)] : List Observer).length) 24) <|
        some (l, (b ++ ([(Observer.mk [] 0)] : List Observer)))
      else
        some (l, b)) = some (a', b') ∧ a'.length ≤ 100 ∧ b'.length ≤ 100 := by
    intro m s b hs hb
    obtain ⟨v, s', e, _⟩ := one_is (m := m) hs (n := 5) (by omega)
    rw [e, Option.bind_some]
    simp only
    split
    · rw [appOk_of (by simp; omega), ck_true]
      exact ⟨_, _, rfl, by omega, by simp; omega⟩
    · exact ⟨_, _, rfl, by omega, by omega⟩
  split
  · rename_i hp
    have hp : 0 < (l.length : Int) := by simpa using hp
    obtain ⟨b, s2, e2, h2⟩ := one_is (m := 9000) (h1.le (by omega)) (n := 2) (by omega)
    rw [e2, Option.bind_some]
    simp only
    split
    · rw [ixOk_of (by omega) (by omega), ck_true]
      obtain ⟨v, s3, e3, _, _, _, h3⟩ := pick_is (m := 8000) (h2.le (by omega)) (n := 2) (by omega)
      rw [e3, Option.bind_some]
      exact tail (m := 7000) _ (h3.le (by omega)) (by rw [List.length_set]; omega)
    · exact tail (m := 7000) l (h2.le (by omega)) (by omega)
  · exact tail (m := 7000) l (h1.le (by omega)) (by omega)

end Go.Proofs.YtegelahoakkaaaaGreatDoor

