/- Plain lemmas, several texts in one. No condition. -/
import Derived.Test.YtibabbjpkjmdeaaGreatDoorQUL
import Derived.Test.YtibabbjpkjmdeaaGreatDoorHPA
/- What typed forms say: choices drawn from bytes. No condition. -/
namespace Go.Proofs.YtibabbjpkjmdeaaGreatDoor
open Go Go.RowKit
set_option linter.unusedSimpArgs false
set_option linter.unusedVariables false

def SrcN (m : Nat) (s : L00Src) : Prop := 0 ≤ s.at_ ∧ s.at_ + m ≤ 1000000000000 ∧ s.code_.length ≤ 1099511627776

theorem SrcN.le {m n : Nat} {s : L00Src} (h : SrcN m s) (hn : n ≤ m) : SrcN n s := ⟨h.1, by have := h.2.1; omega, h.2.2⟩

theorem From_is (c : List UInt8) : spec_l00From c = some ⟨c, 0, 0⟩ := id rfl

theorem srcN_from {c : List UInt8} (h : c.length ≤ 1099511627776) : SrcN 900000000000 ⟨c, 0, 0⟩ := ⟨by show (0 : Int) ≤ 0; omega, by show (0 : Int) + _ ≤ _; omega, h⟩

theorem and255 (n : Int) : 0 ≤ IntKind.u64.wrap (BitVec.ofInt (IntKind.bits .u64) n &&& BitVec.ofInt (IntKind.bits .u64) 255).toNat ∧ IntKind.u64.wrap (BitVec.ofInt (IntKind.bits .u64) n &&& BitVec.ofInt (IntKind.bits .u64) 255).toNat ≤ 255 := by
  have h : (BitVec.ofInt (IntKind.bits .u64) n &&& BitVec.ofInt (IntKind.bits .u64) 255).toNat ≤ 255 := by
    rw [BitVec.toNat_and]
    refine Nat.le_trans Nat.and_le_right ?_
    decide
  generalize (BitVec.ofInt (IntKind.bits .u64) n &&& BitVec.ofInt (IntKind.bits .u64) 255).toNat = q at h ⊢
  unfold IntKind.wrap IntKind.bits
  simp [IntKind.signed]
  omega

theorem next_is {m : Nat} {s : L00Src} (h : SrcN (m + 1) s) : ∃ v s', spec_l00Src_next s = some (v, s') ∧ 0 ≤ v ∧ v ≤ 255 ∧ SrcN m s' := by
  obtain ⟨c, at_, seed⟩ := s
  obtain ⟨h1, h2, h3⟩ := h
  simp only at h1 h2 h3
  have w : IntKind.i64.wrap (at_ + 1) = at_ + 1 := wrap_i64 (by omega) (by omega)
  have hn : ∀ z, SrcN m ⟨c, at_ + 1, z⟩ := fun z => ⟨by show 0 ≤ at_ + 1; omega, by show at_ + 1 + (m : Int) ≤ _; omega, h3⟩
  have w255 : ∀ n, IntKind.i64.wrap (IntKind.u64.wrap (BitVec.ofInt (IntKind.bits .u64) n &&& BitVec.ofInt (IntKind.bits .u64) 255).toNat) = IntKind.u64.wrap (BitVec.ofInt (IntKind.bits .u64) n &&& BitVec.ofInt (IntKind.bits .u64) 255).toNat := fun n => by
    have := and255 n
    exact wrap_i64 (by omega) (by omega)
  unfold spec_l00Src_next
  simp only [w]
  by_cases c1 : at_ < (c.length : Int)
  · have b := u8_lt (c.getD at_.toNat default)
    have c2 : at_ + 1 ≤ (c.length : Int) := by omega
    rw [ixOk_of h1 (by omega)]
    simp only [c1, c2, decide_true, if_true, ck_true]
    exact ⟨_, _, rfl, by omega, by omega, hn _⟩
  · simp only [c1, decide_false, Bool.false_eq_true, if_false]
    have c2 : ¬ at_ + 1 ≤ (c.length : Int) := by omega
    simp only [c2, decide_false, Bool.false_eq_true, if_false]
    rw [shOk_of (by omega), ck_true, w255]
    exact ⟨_, _, rfl, (and255 _).1, (and255 _).2, hn _⟩

theorem pick_is {m : Nat} {s : L00Src} (h : SrcN (m + 2) s) {n : Int} (hn : n ≤ 9223372036854775807) : ∃ v s', spec_l00Src_pick s n = some (v, s') ∧ 0 ≤ v ∧ (1 ≤ n → v < n) ∧ (n ≤ 1 → v = 0) ∧ SrcN m s' := by
  unfold spec_l00Src_pick
  by_cases c : n ≤ 1
  · simp only [c, decide_true, if_true]
    exact ⟨0, s, rfl, by omega, by omega, fun _ => rfl, h.le (by omega)⟩
  · obtain ⟨v1, s1, e1, a1, b1, h1⟩ := next_is h
    obtain ⟨v2, s2, e2, a2, b2, h2⟩ := next_is h1
    simp only [c, decide_false, Bool.false_eq_true, if_false, e1, Option.bind_some]
    by_cases c2 : 200 < n
    · have w1 : IntKind.i64.wrap (v1 * 256) = v1 * 256 := wrap_i64 (by omega) (by omega)
      have w2 : IntKind.i64.wrap (v1 * 256 + v2) = v1 * 256 + v2 := wrap_i64 (by omega) (by omega)
      simp only [c2, decide_true, if_true, e2, Option.bind_some, nz_of (show n ≠ 0 by omega), ck_true, w1, w2, Int.tmod_eq_emod_of_nonneg (show 0 ≤ v1 * 256 + v2 by omega)]
      exact ⟨_, _, rfl, Int.emod_nonneg _ (by omega), fun _ => Int.emod_lt_of_pos _ (by omega), fun hc => hc.elim, h2⟩
    · simp only [c2, decide_false, Bool.false_eq_true, if_false, nz_of (show n ≠ 0 by omega), ck_true, Int.tmod_eq_emod_of_nonneg a1]
      exact ⟨_, _, rfl, Int.emod_nonneg _ (by omega), fun _ => Int.emod_lt_of_pos _ (by omega), fun hc => hc.elim, h1.le (by omega)⟩

end Go.Proofs.YtibabbjpkjmdeaaGreatDoor

/- What typed forms say: one of some numbers. No condition. -/
namespace Go.Proofs.YtibabbjpkjmdeaaGreatDoor
open Go Go.RowKit
set_option linter.unusedSimpArgs false
set_option linter.unusedVariables false

theorem among_is {m : Nat} {s : L00Src} (h : SrcN (m + 2) s) {l : List Int} (h1 : 1 ≤ l.length) (h2 : l.length ≤ 1000) : ∃ v s', spec_l00Src_among s l = some (v, s') ∧ v ∈ l ∧ SrcN m s' := by
  obtain ⟨v, s', e, a, b, _, h'⟩ := pick_is h (n := (l.length : Int)) (by omega)
  have := b (by omega)
  unfold spec_l00Src_among
  rw [e]
  simp only [Option.bind_some]
  rw [ixOk_of a (by omega), ck_true]
  exact ⟨_, s', rfl, getD_mem (by omega) _, h'⟩

end Go.Proofs.YtibabbjpkjmdeaaGreatDoor

/- What typed forms say: one of the drawn. No condition. -/
namespace Go.Proofs.YtibabbjpkjmdeaaGreatDoor
open Go Go.RowKit
set_option linter.unusedSimpArgs false
set_option linter.unusedVariables false

theorem one_is {m : Nat} {s : L00Src} (h : SrcN (m + 2) s) {n : Int} (hn : n ≤ 9223372036854775807) : ∃ v s', spec_l00Src_one s n = some (v, s') ∧ SrcN m s' := by
  obtain ⟨v, s', e, _, _, _, h'⟩ := pick_is h hn
  exact ⟨v == 0, s', by unfold spec_l00Src_one; rw [e]; rfl, h'⟩

end Go.Proofs.YtibabbjpkjmdeaaGreatDoor

/- What typed forms say: one of some texts. No condition. -/
namespace Go.Proofs.YtibabbjpkjmdeaaGreatDoor
open Go Go.RowKit
set_option linter.unusedSimpArgs false
set_option linter.unusedVariables false

theorem text_is {m : Nat} {s : L00Src} (h : SrcN (m + 2) s) {l : List (List UInt8)} (h1 : 1 ≤ l.length) (h2 : l.length ≤ 1000) : ∃ v s', spec_l00Src_text s l = some (v, s') ∧ v ∈ l ∧ SrcN m s' := by
  obtain ⟨v, s', e, a, b, _, h'⟩ := pick_is h (n := (l.length : Int)) (by omega)
  have := b (by omega)
  unfold spec_l00Src_text
  rw [e]
  simp only [Option.bind_some]
  rw [ixOk_of a (by omega), ck_true]
  exact ⟨_, s', rfl, getD_mem (by omega) _, h'⟩

end Go.Proofs.YtibabbjpkjmdeaaGreatDoor

/- What typed forms say: a drawn text is spoilt. No condition. -/
namespace Go.Proofs.YtibabbjpkjmdeaaGreatDoor
open Go Go.RowKit
set_option linter.unusedSimpArgs false
set_option linter.unusedVariables false

theorem l01Spoil_is {m : Nat} {s : L00Src} (h : SrcN (m + 6) s) {t : List UInt8} (ht : t.length ≤ 1000000) : ∃ l s', spec_l01Spoil s t = some (l, s') ∧ l.length ≤ t.length + 1 := by
  unfold spec_l01Spoil
  obtain ⟨v, s1, e1, v0, v1, _, h1⟩ := pick_is (m := m + 4) h (n := 5) (by omega)
  simp only [e1, Option.bind_some]
  by_cases c0 : (v == 0) = true
  · have w : IntKind.i64.wrap ((t.length : Int) + 1) = (t.length : Int) + 1 := wrap_i64 (by omega) (by omega)
    obtain ⟨a, s2, e2, a0, a1, _, h2⟩ := pick_is (m := m + 2) h1 (n := (t.length : Int) + 1) (by omega)
    have a2 := a1 (by omega)
    obtain ⟨x, s3, e3, hx, _⟩ := text_is (m := m) h2 (l := [([32] : List UInt8), ([48] : List UInt8), ([45] : List UInt8), ([120] : List UInt8), ([49] : List UInt8), ([57] : List UInt8), ([46] : List UInt8)]) (by simp) (by simp)
    have hx1 : x.length = 1 := by
      simp only [List.mem_cons, List.not_mem_nil, or_false] at hx
      rcases hx with rfl | rfl | rfl | rfl | rfl | rfl | rfl <;> rfl
    have l1 : (cut t 0 a).length ≤ a.toNat := by simp [cut]; omega
    have l2 : (cut t a (t.length : Int)).length ≤ t.length - a.toNat := by simp [cut]
    simp only [c0, if_true, w, e2, e3, Option.bind_some]
    rw [cutOk_of (by omega) a0 (by omega), ck_true, ck_of (show catOk _ _ = true by simp [catOk]; omega), cutOk_of a0 (by omega) (by omega), ck_true, ck_of (show catOk _ _ = true by simp only [catOk, List.length_append]; simp; omega)]
    exact ⟨_, _, rfl, by simp only [List.length_append]; omega⟩
  · by_cases c1 : (v == 1) = true
    · by_cases ct : t = []
      · subst ct
        simp only [c0, c1, if_true]
        exact ⟨_, _, rfl, by simp⟩
      · have hb : (!(t == ([] : List UInt8))) = true := by simpa using ct
        have hp : 0 < t.length := by cases t with | nil => exact absurd rfl ct | cons => simp
        obtain ⟨a, s2, e2, a0, a1, _, h2⟩ := pick_is (m := m + 2) h1 (n := (t.length : Int)) (by omega)
        have a2 := a1 (by omega)
        have w : IntKind.i64.wrap (a + 1) = a + 1 := wrap_i64 (by omega) (by omega)
        have l1 : (cut t 0 a).length ≤ a.toNat := by simp [cut]; omega
        have l2 : (cut t (a + 1) (t.length : Int)).length ≤ t.length - (a + 1).toNat := by simp [cut]
        simp only [c0, c1, hb, if_true, if_false, Bool.false_eq_true, e2, Option.bind_some, w]
        rw [cutOk_of (by omega) a0 (by omega), ck_true, cutOk_of (by omega) (by omega) (by omega), ck_true, ck_of (show catOk _ _ = true by simp [catOk]; omega)]
        exact ⟨_, _, rfl, by simp only [List.length_append]; omega⟩
    · simp only [c0, c1, if_false, Bool.false_eq_true]
      exact ⟨_, _, rfl, by omega⟩

end Go.Proofs.YtibabbjpkjmdeaaGreatDoor

/- What typed forms say: drawn requests. No condition. -/
namespace Go.Proofs.YtibabbjpkjmdeaaGreatDoor
open Go Go.RowKit
set_option linter.unusedSimpArgs false
set_option linter.unusedVariables false

theorem names_good : ∀ i : Fin 3, nameB (([[109, 105, 114, 97], [114, 114, 45, 108, 121, 114], [115, 115, 45, 99, 121, 103]] : List (List UInt8)).getD i.val default) = true := by decide +kernel

theorem l22New_good {m : Nat} {s : L00Src} (h : SrcN (m + 20) s) : ∃ x s', spec_l22New s = some (x, s') ∧ oneR x = true ∧ SrcN m s' := by
  unfold spec_l22New
  obtain ⟨n, s1, e1, hn, h1⟩ := text_is (m := m + 18) h (l := [([109, 105, 114, 97] : List UInt8), ([114, 114, 45, 108, 121, 114] : List UInt8), ([115, 115, 45, 99, 121, 103] : List UInt8)]) (by simp) (by simp)
  have hn' : nameB n = true := by
    obtain ⟨i, hi, e⟩ := List.getElem_of_mem hn
    have := names_good ⟨i, by simpa using hi⟩
    rw [← e]
    rw [getD_lt hi] at this
    exact this
  obtain ⟨a, s2, e2, a0, a1, _, h2⟩ := pick_is (m := m + 16) h1 (n := 25) (by omega)
  have a2 := a1 (by omega)
  obtain ⟨b, s3, e3, b0, b1, _, h3⟩ := pick_is (m := m + 14) h2 (n := 15) (by omega)
  have b2 := b1 (by omega)
  obtain ⟨c, s4, e4, c0, c1, _, h4⟩ := pick_is (m := m + 12) h3 (n := 5) (by omega)
  have c2 := c1 (by omega)
  have w : IntKind.i64.wrap (IntKind.i64.wrap (1 + c) + 1) = c + 2 := by rw [wrap_i64 (n := 1 + c) (by omega) (by omega), wrap_i64 (by omega) (by omega)]; omega
  obtain ⟨d, s5, e5, d0, d1, _, h5⟩ := pick_is (m := m + 10) h4 (n := c + 2) (by omega)
  have d2 := d1 (by omega)
  obtain ⟨e, s6, e6, f0, f1, _, h6⟩ := pick_is (m := m + 8) h5 (n := 5) (by omega)
  have f2 := f1 (by omega)
  rw [e1, Option.bind_some, e2, Option.bind_some, e3, Option.bind_some, e4, Option.bind_some]
  simp only [w]
  rw [e5, Option.bind_some, e6]
  refine ⟨_, _, rfl, ?_, h6.le (by omega)⟩
  simp only
  rw [wrap_i64 (n := 1000 * a) (by omega) (by omega), wrap_i64 (n := 1000 * b) (by omega) (by omega), wrap_i64 (n := 1000 * a + 1000 * b) (by omega) (by omega), wrap_i64 (n := 1 + c) (by omega) (by omega), wrap_i64 (n := 1 + e) (by omega) (by omega)]
  unfold oneR
  simp only [hn', Bool.true_and, Bool.and_eq_true, decide_eq_true_eq]
  exact ⟨⟨⟨⟨by omega, by omega⟩, by omega⟩, by omega⟩, by omega⟩

theorem l22New_is {m : Nat} {s : L00Src} (h : SrcN (m + 20) s) : ∃ x s', spec_l22New s = some (x, s') ∧ SrcN m s' := by
  obtain ⟨x, s', e, _, h'⟩ := l22New_good h
  exact ⟨x, s', e, h'⟩

theorem l22Spoil_is {m : Nat} {s : L00Src} (h : SrcN (m + 20) s) {l : List Request} {i : Int} (h0 : 0 ≤ i) (h1 : i < l.length) : ∃ l' s', spec_l22Spoil_ix1 s l i = some (s', l') ∧ l'.length = l.length ∧ SrcN m s' := by
  unfold spec_l22Spoil_ix1
  obtain ⟨v, s1, e1, _, _, _, h1'⟩ := pick_is (m := m + 18) h (n := 5) (by omega)
  rw [ixOk_of h0 (by omega), ck_true, e1, Option.bind_some]
  have lens : ∀ x : Request, ((l.set i.toNat x).length == l.length) = true := fun x => by simp
  simp only [lens, ck_true]
  split
  · obtain ⟨x, s2, e2, _, h2⟩ := text_is (m := m + 10) (h1'.le (by omega)) (l := [([] : List UInt8), ([77, 105, 114, 97] : List UInt8), ([120] : List UInt8)]) (by simp) (by simp)
    rw [e2]; exact ⟨_, _, rfl, by simp, h2.le (by omega)⟩
  · split
    · obtain ⟨x, s2, e2, _, h2⟩ := among_is (m := m + 10) (h1'.le (by omega)) (l := [(-1), 0, (l.getD i.toNat default).To, (IntKind.i64.wrap (((l.getD i.toNat default).To) + 1))]) (by simp) (by simp)
      rw [e2]; exact ⟨_, _, rfl, by simp, h2.le (by omega)⟩
    · split
      · obtain ⟨x, s2, e2, _, h2⟩ := among_is (m := m + 10) (h1'.le (by omega)) (l := [(-1), 10000000, 10000001]) (by simp) (by simp)
        rw [e2]; exact ⟨_, _, rfl, by simp, h2.le (by omega)⟩
      · split
        · obtain ⟨x, s2, e2, _, h2⟩ := among_is (m := m + 10) (h1'.le (by omega)) (l := [0, (l.getD i.toNat default).Done, 100, 101, (-9223372036854775808)]) (by simp) (by simp)
          rw [e2]; exact ⟨_, _, rfl, by simp, h2.le (by omega)⟩
        · split
          · obtain ⟨x, s2, e2, _, h2⟩ := among_is (m := m + 10) (h1'.le (by omega)) (l := [0, 1, 5, 6]) (by simp) (by simp)
            rw [e2]; exact ⟨_, _, rfl, by simp, h2.le (by omega)⟩
          · exact ⟨_, _, rfl, rfl, h1'.le (by omega)⟩

theorem bentR_loop {step : L00Src × List Request × Int → Option ((L00Src × List Request × Int) ⊕ (L00Src × List Request))}
    (hs : ∀ (s : L00Src) (l : List Request) (k : Int) , step (s, l, k) = if (decide (0 < k)) then (spec_l22New s).bind fun y_6 => ck (appOk (l.length + ([y_6.1] : List Request).length) 56) <| some (.inl (y_6.2, (l ++ ([y_6.1] : List Request)), (IntKind.i64.wrap (k - 1)))) else some (.inr (s, l)))
    {m : Nat} {s : L00Src} {n : Int} (h0 : 0 ≤ n) (h1 : n ≤ 40) (h : SrcN (m + 800) s) : ∃ l s', whileE step (s, ([] : List Request), n) = some (s', l) ∧ l.length ≤ 40 ∧ SrcN m s' := by
  obtain ⟨y, hy, hq⟩ := while_post (step := step) (fun x => 0 ≤ x.2.2 ∧ (x.2.1.length : Int) + x.2.2 ≤ 40 ∧ SrcN (m + 20 * x.2.2.toNat) x.1) (fun y => y.2.length ≤ 40 ∧ SrcN m y.1) (fun x => x.2.2.toNat) (by
    rintro ⟨s, l, k⟩ ⟨k0, k1, hk⟩
    simp only at k0 k1 hk
    rw [hs]
    by_cases c : 0 < k
    · left
      obtain ⟨x, s', e, h'⟩ := l22New_is (m := m + 20 * (k - 1).toNat) (hk.le (by omega))
      simp only [c, decide_true, if_true, e, Option.bind_some]
      rw [appOk_of (by simp; omega), ck_true, wrap_i64 (n := k - 1) (by omega) (by omega)]
      exact ⟨_, rfl, ⟨by show 0 ≤ k - 1; omega, by show ((l ++ [_]).length : Int) + (k - 1) ≤ 40; simp; omega, h'⟩, by show (k - 1).toNat < k.toNat; omega⟩
    · right
      exact ⟨(s, l), by simp [c], by show l.length ≤ 40; omega, hk.le (by omega)⟩) (s := (s, ([] : List Request), n)) ⟨h0, by simp; omega, h.le (by show m + 20 * n.toNat ≤ m + 800; omega)⟩
  exact ⟨y.2, y.1, hy, hq.1, hq.2⟩

theorem bentR_tail {m : Nat} {s : L00Src} (h : SrcN (m + 40) s) {l : List Request} (hl : l.length ≤ 40) : ∃ l' s', (if (decide (0 < (l.length : Int))) then
      (spec_l00Src_one s 8).bind fun y_10 =>
      if ((decide (0 < (l.length : Int))) && y_10.1) then
        (spec_l00Src_pick y_10.2 (l.length : Int)).bind fun y_12 =>
        ck (ixOk y_12.1 l.length) <|
        (spec_l22Spoil_ix1 y_12.2 l y_12.1).bind fun y_14 =>
        some (y_14.2, y_14.1)
      else
        some (l, y_10.2)
    else
      some (l, s)) = some (l', s') ∧ l'.length ≤ 40 ∧ SrcN m s' := by
  split
  · rename_i hp
    have hp : 0 < (l.length : Int) := by simpa using hp
    obtain ⟨b, s1, e1, h1⟩ := one_is (m := m + 38) h (n := 8) (by omega)
    rw [e1, Option.bind_some]
    simp only
    split
    · obtain ⟨u, s2, e2, u0, u1, _, h2⟩ := pick_is (m := m + 36) h1 (n := (l.length : Int)) (by omega)
      have u2 := u1 (by omega)
      obtain ⟨l', s3, e3, hl3, h3⟩ := l22Spoil_is (m := m + 16) h2 (l := l) u0 u2
      rw [e2, Option.bind_some]
      simp only
      rw [ixOk_of u0 (by omega), ck_true, e3]
      exact ⟨_, _, rfl, by show l'.length ≤ 40; omega, h3.le (by omega)⟩
    · exact ⟨_, _, rfl, hl, h1.le (by omega)⟩
  · exact ⟨_, _, rfl, hl, h.le (by omega)⟩

theorem l22Bent_is {m : Nat} {s : L00Src} (h : SrcN (m + 1000) s) : ∃ l s', spec_l22Bent s = some (l, s') ∧ l.length ≤ 40 ∧ SrcN m s' := by
  unfold spec_l22Bent
  obtain ⟨a, s1, e1, a0, a1, _, h1⟩ := pick_is (m := m + 990) (h.le (by omega)) (n := 7) (by omega)
  have a2 := a1 (by omega)
  obtain ⟨b, s2, e2, h2⟩ := one_is (m := m + 980) (h1.le (by omega)) (n := 24) (by omega)
  rw [e1, Option.bind_some, e2, Option.bind_some]
  simp only
  split
  · obtain ⟨u, s3, e3, u0, u1, _, h3⟩ := pick_is (m := m + 970) (h2.le (by omega)) (n := 2) (by omega)
    have u2 := u1 (by omega)
    rw [e3, Option.bind_some, wrap_i64 (n := 30 + u) (by omega) (by omega)]
    obtain ⟨l, s4, e4, hl, h4⟩ := bentR_loop (step := spec_l22Bent_l1) (fun s l k => id rfl) (m := m + 100) (s := s3) (n := 30 + u) (by omega) (by omega) (h3.le (by omega))
    simp only
    rw [e4, Option.bind_some]
    exact bentR_tail (h4.le (by omega)) hl
  · obtain ⟨l, s4, e4, hl, h4⟩ := bentR_loop (step := spec_l22Bent_l2) (fun s l k => id rfl) (m := m + 100) (s := s2) (n := a) (by omega) (by omega) (h2.le (by omega))
    rw [e4, Option.bind_some]
    exact bentR_tail (h4.le (by omega)) hl

theorem l06When_is {m : Nat} {s : L00Src} (h : SrcN (m + 6) s) : ∃ v s', spec_l06When s = some (v, s') ∧ SrcN m s' := by
  unfold spec_l06When
  obtain ⟨b, s1, e1, h1⟩ := one_is (m := m + 4) h (n := 12) (by omega)
  rw [e1, Option.bind_some]
  simp only
  split
  · obtain ⟨x, s2, e2, _, h2⟩ := among_is (m := m + 2) h1 (l := [(-1), 0, 10000000, 10000001]) (by simp) (by simp)
    rw [e2]; exact ⟨_, _, rfl, h2.le (by omega)⟩
  · obtain ⟨x, s2, e2, _, _, _, h2⟩ := pick_is (m := m + 2) h1 (n := 33) (by omega)
    rw [e2]; exact ⟨_, _, rfl, h2.le (by omega)⟩

end Go.Proofs.YtibabbjpkjmdeaaGreatDoor

