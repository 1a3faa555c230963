/- What typed forms say: tables, texts and pages drawn from bytes. No condition. -/
import Derived.Test.YtambhaccpbhnhaaGreatDoorHTab
import Derived.Test.YtambhaccpbhnhaaGreatDoorHDrawO
namespace Go.Proofs.YtambhaccpbhnhaaGreatDoor
open Go Go.RowKit
set_option linter.unusedSimpArgs false
set_option linter.unusedVariables false

theorem text_of {m : Nat} {s : L00Src} (h : SrcN (m + 2) s) {list : List (List UInt8)} (h1 : 1 ≤ list.length) (h2 : list.length ≤ 1000) {b : Nat} (hb : ∀ x ∈ list, x.length ≤ b) :
    ∃ t s', spec_l00Src_text s list = some (t, s') ∧ t.length ≤ b ∧ SrcN m s' := by
  obtain ⟨v, s1, e, v0, v1, _, h'⟩ := pick_is h (n := (list.length : Int)) (by omega)
  have hv := v1 (by omega)
  unfold spec_l00Src_text
  rw [e, Option.bind_some]
  simp only
  rw [ixOk_of v0 (by omega), ck_true]
  exact ⟨_, _, rfl, hb _ (getD_mem (by omega) default), h'⟩

theorem Word_is {m : Nat} {s : L00Src} (h : SrcN (m + 4) s) : ∃ t s', spec_l24Word s = some (t, s') ∧ t.length ≤ 20 ∧ SrcN m s' := by
  obtain ⟨v, s1, e, h1⟩ := one_is (n := 30) h (by omega)
  unfold spec_l24Word
  rw [e, Option.bind_some]
  simp only
  cases v
  · obtain ⟨t, s2, e2, ht, h2⟩ := text_of (list := [([] : List UInt8), ([97] : List UInt8), ([109, 105, 114, 97] : List UInt8), ([49, 50] : List UInt8), ([57, 46, 53, 48, 48] : List UInt8), ([114, 114, 45, 108, 121, 114] : List UInt8), ([111, 98, 115, 101, 114, 118, 101, 114, 115] : List UInt8), ([109, 97, 120, 32, 49] : List UInt8)]) (b := 20) h1 (by simp) (by simp) (by intro x hx; simp only [List.mem_cons, List.not_mem_nil, or_false] at hx; rcases hx with rfl | rfl | rfl | rfl | rfl | rfl | rfl | rfl <;> simp)
    rw [if_neg Bool.false_ne_true, e2]
    exact ⟨t, s2, rfl, ht, h2⟩
  · obtain ⟨t, s2, e2, ht, h2⟩ := text_of (list := [([97, 10, 98] : List UInt8), ([120, 127] : List UInt8), ([31] : List UInt8)]) (b := 20) h1 (by simp) (by simp) (by intro x hx; simp only [List.mem_cons, List.not_mem_nil, or_false] at hx; rcases hx with rfl | rfl | rfl <;> simp)
    rw [if_pos rfl, e2]
    exact ⟨t, s2, rfl, ht, h2⟩

/-! ### Tables -/

theorem rows_w : ∀ (k : Nat) {m : Nat} {s : L00Src} (row : List (List UInt8)), SrcN (m + 4 * k) s → row.length + k ≤ 1000 → (∀ x ∈ row, x.length ≤ 100) →
    ∃ row' s', spec_l24DrawRows_w k s row = some (row', s') ∧ row'.length = row.length + k ∧ (∀ x ∈ row', x.length ≤ 100) ∧ SrcN m s'
  | 0, m, s, row, h, _, hx => ⟨row, s, rfl, rfl, hx, h⟩
  | k + 1, m, s, row, h, hl, hx => by
    obtain ⟨t, s1, e, ht, h1⟩ := Word_is (m := m + 4 * k) (s := s) (by rwa [show m + 4 * k + 4 = m + 4 * (k + 1) by omega])
    obtain ⟨row', s2, e2, l2, x2, h2⟩ := rows_w k (row ++ [t]) h1 (by simp; omega) (fun x hq => by
      rcases List.mem_append.1 hq with q | q
      · exact hx x q
      · obtain rfl := List.mem_singleton.1 q; omega)
    refine ⟨row', s2, ?_, by simp at l2; omega, x2, h2⟩
    unfold spec_l24DrawRows_w
    rw [e, Option.bind_some, decide_eq_true (show row.length + 1 ≤ 1099511627776 by omega), ck_true, e2]

def RowsN (n : Nat) (rows : Tb) : Prop := ∀ r ∈ rows, r.length = n ∧ ∀ x ∈ r, x.length ≤ 100

theorem rows_r (n : Nat) (hn : n ≤ 100) : ∀ (k : Nat) {m : Nat} {s : L00Src} (out : Tb), SrcN (m + (4 * n) * k) s → out.length + k ≤ 1000 → RowsN n out →
    ∃ out' s', spec_l24DrawRows_r n k s out = some (out', s') ∧ out'.length = out.length + k ∧ RowsN n out' ∧ SrcN m s'
  | 0, m, s, out, h, _, hx => ⟨out, s, rfl, rfl, hx, h⟩
  | k + 1, m, s, out, h, hl, hx => by
    obtain ⟨row, s1, e, lr, xr, h1⟩ := rows_w n (m := m + (4 * n) * k) (s := s) [] (by rw [Nat.mul_succ] at h; rwa [Nat.add_assoc]) (by simp; omega) (by simp)
    obtain ⟨out', s2, e2, l2, x2, h2⟩ := rows_r n hn k (out ++ [row]) h1 (by simp; omega) (fun r hq => by
      rcases List.mem_append.1 hq with q | q
      · exact hx r q
      · obtain rfl := List.mem_singleton.1 q
        exact ⟨by simpa using lr, xr⟩)
    refine ⟨out', s2, ?_, by simp at l2; omega, x2, h2⟩
    unfold spec_l24DrawRows_r
    rw [e, Option.bind_some, decide_eq_true (show out.length + 1 ≤ 1099511627776 by omega), ck_true, e2]

theorem rows_small {n : Nat} {rows : Tb} (hn : n ≤ 100) (hl : rows.length ≤ 100) (h : RowsN n rows) : SmallT rows :=
  ⟨by omega, fun r hr => ⟨by have := (h r hr).1; omega, fun x hx => by have := (h r hr).2 x hx; omega⟩⟩

theorem small_set {rows : Tb} (h : SmallT rows) (i : Nat) {r : List (List UInt8)} (h1 : r.length ≤ 1000) (h2 : ∀ x ∈ r, x.length ≤ 100000) : SmallT (rows.set i r) :=
  ⟨by rw [List.length_set]; exact h.1, fun q hq => by
    rcases List.mem_or_eq_of_mem_set hq with c | c
    · exact h.2 q c
    · subst c; exact ⟨h1, h2⟩⟩

theorem rows_t {m n : Nat} {s : L00Src} (h : SrcN (m + 6) s) {out : Tb} (hn : n ≤ 100) (hl : out.length ≤ 100) (hx : RowsN n out) : ∃ rows s', spec_l24DrawRows_t (n : Int) s out = some (rows, s') ∧ SmallT rows ∧ SrcN m s' := by
  have hS := rows_small hn hl hx
  unfold spec_l24DrawRows_t
  by_cases h0 : 0 < out.length
  · rw [if_pos (decide_eq_true (show (0 : Int) < (out.length : Int) by omega))]
    obtain ⟨v1, s1, e1, a1, b1, _, h1⟩ := pick_is h (n := (out.length : Int)) (by omega)
    have b1 := b1 (by omega)
    obtain ⟨v2, s2, e2, a2, b2, _, h2⟩ := pick_is h1 (n := 20) (by omega)
    rw [e1, Option.bind_some]
    simp only
    rw [e2, Option.bind_some]
    simp only
    have hi : v1.toNat < out.length := by omega
    have hrow := hx _ (getD_mem hi ([] : List (List UInt8)))
    have hix : ixOk v1 out.length = true := ixOk_of a1 (by omega)
    by_cases c0 : v2 = 0
    · have q : (v2 == 0) = true := by rw [c0]; rfl
      rw [q, if_pos rfl, hix, ck_true, decide_eq_true (show (out.getD v1.toNat []).length + 1 ≤ 1099511627776 by omega), ck_true]
      exact ⟨_, _, rfl, small_set hS _ (by rw [List.length_append, hrow.1]; show n + 1 ≤ 1000; omega) (fun x hq => by
        rcases List.mem_append.1 hq with q | q
        · have := hrow.2 x q; omega
        · obtain rfl := List.mem_singleton.1 q; simp), h2.le (by omega)⟩
    · have q : (v2 == 0) = false := by rw [beq_eq_false_iff_ne]; exact c0
      rw [q, if_neg Bool.false_ne_true]
      by_cases c1 : v2 = 1
      · have q : (v2 == 1) = true := by rw [c1]; rfl
        rw [q, if_pos rfl]
        by_cases cn : 0 < n
        · rw [if_pos (decide_eq_true (show (0 : Int) < (n : Int) by omega)), hix, ck_true]
          obtain ⟨v3, s3, e3, a3, b3, _, h3⟩ := pick_is h2 (n := 2) (by omega)
          have b3 := b3 (by omega)
          rw [e3, Option.bind_some]
          simp only
          rw [wrap_i64 (by omega) (by omega), Blanks_is (by omega), Option.bind_some, ixOk_of (by omega) (by omega), ck_true]
          refine ⟨_, _, rfl, small_set hS _ (by rw [List.length_set]; omega) (fun x hq => ?_), h3⟩
          rcases List.mem_or_eq_of_mem_set hq with c | c
          · have := hrow.2 x c; omega
          · subst c; simp; omega
        · rw [decide_eq_false (show ¬ (0 : Int) < (n : Int) by omega), if_neg Bool.false_ne_true]
          exact ⟨_, _, rfl, hS, h2.le (by omega)⟩
      · have q : (v2 == 1) = false := by rw [beq_eq_false_iff_ne]; exact c1
        rw [q, if_neg Bool.false_ne_true]
        cases (v2 == 2)
        · exact ⟨_, _, rfl, hS, h2.le (by omega)⟩
        · rw [if_pos rfl]
          obtain ⟨v3, s3, e3, a3, b3, _, h3⟩ := pick_is h2 (n := 2) (by omega)
          have b3 := b3 (by omega)
          rw [e3, Option.bind_some]
          simp only
          rw [wrap_i64 (by omega) (by omega), decide_eq_true (show 0 ≤ 60 + v3 by omega), decide_eq_true (show 60 + v3 ≤ 1099511627776 by omega), Bool.and_self, ck_true]
          exact ⟨_, _, rfl, ⟨by simp; omega, fun r hr => by obtain rfl := List.eq_of_mem_replicate hr; simp⟩, h3⟩
  · rw [decide_eq_false (show ¬ (0 : Int) < (out.length : Int) by omega), if_neg Bool.false_ne_true]
    exact ⟨_, _, rfl, hS, h.le (by omega)⟩

theorem DrawRows_is {m : Nat} {s : L00Src} (h : SrcN (m + 1000) s) : ∃ rows s', spec_l24DrawRows s = some (rows, s') ∧ SmallT rows ∧ SrcN m s' := by
  obtain ⟨v1, s1, e1, a1, b1, _, h1⟩ := pick_is (m := m + 998) h (n := 5) (by omega)
  have b1 := b1 (by omega)
  obtain ⟨v2, s2, e2, h2⟩ := one_is (m := m + 996) h1 (n := 16) (by omega)
  unfold spec_l24DrawRows
  rw [e1, Option.bind_some]
  simp only
  rw [e2, Option.bind_some]
  simp only
  have key : ∃ n s3, (if v2 then (spec_l00Src_pick s2 2).bind fun y_3 => some (IntKind.i64.wrap (8 + y_3.1), y_3.2) else some (v1, s2)) = some (n, s3) ∧ 0 ≤ n ∧ n ≤ 20 ∧ SrcN (m + 994) s3 := by
    cases v2
    · exact ⟨v1, s2, rfl, a1, by omega, h2.le (by omega)⟩
    · obtain ⟨v3, s3, e3, a3, b3, _, h3⟩ := pick_is (m := m + 994) h2 (n := 2) (by omega)
      have b3 := b3 (by omega)
      rw [if_pos rfl, e3, Option.bind_some]
      simp only
      rw [wrap_i64 (by omega) (by omega)]
      exact ⟨_, _, rfl, by omega, by omega, h3⟩
  obtain ⟨n, s3, e3, n0, n20, h3⟩ := key
  rw [e3, Option.bind_some]
  simp only
  obtain ⟨v4, s4, e4, a4, b4, _, h4⟩ := pick_is (m := m + 992) h3 (n := 6) (by omega)
  have b4 := b4 (by omega)
  rw [e4, Option.bind_some]
  simp only
  rw [decide_eq_true (show n ≤ 1000000 by omega), decide_eq_true (show v4 ≤ 1000000 by omega), Bool.and_self, ck_true]
  obtain ⟨k, rfl⟩ : ∃ k : Nat, n = (k : Int) := ⟨n.toNat, by omega⟩
  obtain ⟨j, rfl⟩ : ∃ k : Nat, v4 = (k : Int) := ⟨v4.toNat, by omega⟩
  have hkj : 4 * k * j ≤ 4 * 20 * 6 := Nat.mul_le_mul (by omega) (by omega)
  obtain ⟨out, s5, e5, l5, x5, h5⟩ := rows_r k (by omega) j (m := m + 6) (s := s4) [] (h4.le (by omega)) (by simp; omega) (fun r hr => by simp at hr)
  simp only [Int.toNat_natCast]
  rw [e5, Option.bind_some]
  exact rows_t (out := out) h5 (by omega) (by simp at l5; omega) x5

theorem sides_loop {rows : Tb} : ∀ (k : Nat) {m : Nat} {n i : Int} {s : L00Src} (out : List UInt8), SrcN (m + 2 * k) s → i + k = n → 0 ≤ i → n ≤ 1000000 → out.length + k ≤ 100000 →
    (∃ out' s', whileE (spec_DrawTableLines_l1 rows n) (s, out, i) = some (s', out') ∧ out'.length ≤ 100000 ∧ SrcN m s')
  | 0, m, n, i, s, out, h, hi, h0, hn, ho => by
    obtain rfl : i = n := by omega
    refine ⟨out, s, whileE_done ?_, by omega, h⟩
    simp [spec_DrawTableLines_l1]
  | k + 1, m, n, i, s, out, h, hi, h0, hn, ho => by
    obtain ⟨v, s1, e1, a1, b1, _, h1⟩ := pick_is (m := m + 2 * k) (s := s) (by rwa [show m + 2 * k + 2 = m + 2 * (k + 1) by omega]) (n := 2) (by omega)
    have b1 := b1 (by omega)
    have hlt : decide (i < n) = true := decide_eq_true (by omega)
    obtain ⟨out', s', e', l', h'⟩ := sides_loop (rows := rows) k (n := n) (i := i + 1) (out ++ [(([108, 114] : List UInt8).getD v.toNat 0)]) h1 (by omega) (by omega) hn (by simp; omega)
    refine ⟨out', s', ?_, l', h'⟩
    rw [whileE_next (s' := (s1, out ++ [(([108, 114] : List UInt8).getD v.toNat 0)], i + 1)) (by
      simp only [spec_DrawTableLines_l1, hlt, if_true, e1, Option.bind_some]
      rw [ixOk_of a1 (by simp; omega), ck_true, appOk_of (by simp; omega), ck_true, wrap_i64 (by omega) (by omega)]), e']

theorem DrawTableLines_is {c : List UInt8} (h : c.length ≤ 1099511627776) : ∃ rows sides, spec_DrawTableLines c = some (rows, sides) ∧ SmallT rows ∧ sides.length ≤ 1000000 := by
  have h0 := srcN_from h
  obtain ⟨rows, s1, e1, hS, h1⟩ := DrawRows_is (m := 899000000000) (h0.le (by omega))
  unfold spec_DrawTableLines
  rw [From_is, Option.bind_some, e1, Option.bind_some]
  simp only
  by_cases hl : 0 < rows.length
  · rw [if_pos (decide_eq_true (show (0 : Int) < (rows.length : Int) by omega)), ixOk_of (by omega) (by omega), ck_true]
    have hn := (smallT_row hS hl).1
    obtain ⟨out, s2, e2, l2, h2⟩ := sides_loop (rows := rows) (rows.getD 0 default).length (m := 890000000000) (n := ((rows.getD 0 default).length : Int)) (i := 0) [] (h1.le (by omega)) (by omega) (by omega) (by omega) (by show 0 + (rows.getD 0 default).length ≤ _; omega)
    rw [e2, Option.bind_some]
    simp only
    obtain ⟨v3, s3, e3, h3⟩ := one_is (m := 880000000000) (h2.le (by omega)) (n := 10) (by omega)
    rw [e3, Option.bind_some]
    simp only
    cases v3
    · exact ⟨_, _, rfl, hS, by omega⟩
    · obtain ⟨v4, s4, e4, a4, b4, _, h4⟩ := pick_is (m := 870000000000) (h3.le (by omega)) (n := 3) (by omega)
      have b4 := b4 (by omega)
      rw [if_pos rfl, e4, Option.bind_some]
      simp only
      rw [ixOk_of a4 (by simp; omega), ck_true, appOk_of (by simp; omega), ck_true]
      exact ⟨_, _, rfl, hS, by simp; omega⟩
  · rw [decide_eq_false (show ¬ (0 : Int) < (rows.length : Int) by omega), if_neg Bool.false_ne_true]
    rw [whileE_done (r := (s1, [])) (by simp [spec_DrawTableLines_l2]), Option.bind_some]
    simp only
    obtain ⟨v3, s3, e3, h3⟩ := one_is (m := 880000000000) (h1.le (by omega)) (n := 10) (by omega)
    rw [e3, Option.bind_some]
    simp only
    cases v3
    · exact ⟨_, _, rfl, hS, by simp⟩
    · obtain ⟨v4, s4, e4, a4, b4, _, h4⟩ := pick_is (m := 870000000000) (h3.le (by omega)) (n := 3) (by omega)
      have b4 := b4 (by omega)
      rw [if_pos rfl, e4, Option.bind_some]
      simp only
      rw [ixOk_of a4 (by simp; omega), ck_true, appOk_of (by simp), ck_true]
      exact ⟨_, _, rfl, hS, by simp⟩

theorem DrawColumnWidths_is {c : List UInt8} (h : c.length ≤ 1099511627776) : ∃ rows, spec_DrawColumnWidths c = some rows ∧ SmallT rows := by
  have h0 := srcN_from h
  obtain ⟨rows, s1, e1, hS, h1⟩ := DrawRows_is (m := 899000000000) (h0.le (by omega))
  unfold spec_DrawColumnWidths
  rw [From_is, Option.bind_some, e1, Option.bind_some]
  exact ⟨rows, rfl, hS⟩

/-! ### Texts -/

theorem among_of {m : Nat} {s : L00Src} (h : SrcN (m + 2) s) {list : List Int} (h1 : 1 ≤ list.length) (h2 : list.length ≤ 1000) : ∃ v s', spec_l00Src_among s list = some (v, s') ∧ SrcN m s' := by
  obtain ⟨v, s1, e, v0, v1, _, h'⟩ := pick_is h (n := (list.length : Int)) (by omega)
  have hv := v1 (by omega)
  unfold spec_l00Src_among
  rw [e, Option.bind_some]
  simp only
  rw [ixOk_of v0 (by omega), ck_true]
  exact ⟨_, _, rfl, h'⟩

theorem wtext_loop : ∀ (k : Nat) {m : Nat} {s : L00Src} (t : List UInt8), SrcN (m + 6 * k) s → t.length + 100 * k ≤ 100000 →
    (∃ t' s', whileE spec_DrawWrapText_l1 (s, t, (k : Int)) = some (s', t') ∧ t'.length ≤ 100000 ∧ SrcN m s')
  | 0, m, s, t, h, ht => ⟨t, s, whileE_done (by simp [spec_DrawWrapText_l1]), by omega, h⟩
  | k + 1, m, s, t, h, ht => by
    obtain ⟨w, s1, e1, l1, h1⟩ := Word_is (m := m + 6 * k + 2) (s := s) (h.le (by omega))
    obtain ⟨v, s2, e2, a2, b2, _, h2⟩ := pick_is h1 (n := 2) (by omega)
    have b2 := b2 (by omega)
    have hlt : decide ((0 : Int) < ((k + 1 : Nat) : Int)) = true := decide_eq_true (by omega)
    have hb : (List.replicate (1 + v).toNat (32 : UInt8)).length ≤ 2 := by simp; omega
    obtain ⟨t', s', e', l', h'⟩ := wtext_loop k (m := m) (s := s2) (t ++ (w ++ List.replicate (1 + v).toNat 32)) h2 (by rw [List.length_append, List.length_append]; omega)
    refine ⟨t', s', ?_, l', h'⟩
    rw [whileE_next (s' := (s2, t ++ (w ++ List.replicate (1 + v).toNat 32), (k : Int))) (by
      simp only [spec_DrawWrapText_l1, hlt, if_true, e1, Option.bind_some, e2]
      rw [wrap_i64 (by omega) (by omega), Blanks_is (by omega), Option.bind_some, catOk_of (by omega), ck_true, catOk_of (by rw [List.length_append]; omega), ck_true, wrap_i64 (by omega) (by omega)]
      congr 4
      omega), e']

theorem DrawWrapText_is {c : List UInt8} (h : c.length ≤ 1099511627776) : ∃ t w, spec_DrawWrapText c = some (t, w) ∧ t.length ≤ 1000000 := by
  have h0 := srcN_from h
  obtain ⟨v1, s1, e1, a1, b1, _, h1⟩ := pick_is (m := 899000000000) (h0.le (by omega)) (n := 9) (by omega)
  have b1 := b1 (by omega)
  obtain ⟨k, rfl⟩ : ∃ k : Nat, v1 = (k : Int) := ⟨v1.toNat, by omega⟩
  obtain ⟨t, s2, e2, l2, h2⟩ := wtext_loop k (m := 890000000000) (s := s1) [] (h1.le (by omega)) (by simp; omega)
  unfold spec_DrawWrapText
  rw [From_is, Option.bind_some, e1, Option.bind_some]
  simp only
  rw [e2, Option.bind_some]
  simp only
  obtain ⟨v3, s3, e3, h3⟩ := one_is (m := 880000000000) (h2.le (by omega)) (n := 20) (by omega)
  rw [e3, Option.bind_some]
  simp only
  cases v3
  · rw [if_neg Bool.false_ne_true]
    obtain ⟨v4, s4, e4, h4⟩ := one_is (m := 870000000000) (h3.le (by omega)) (n := 12) (by omega)
    rw [e4, Option.bind_some]
    simp only
    cases v4
    · rw [if_neg Bool.false_ne_true]
      obtain ⟨v5, s5, e5, a5, b5, _, h5⟩ := pick_is (m := 860000000000) (h4.le (by omega)) (n := 20) (by omega)
      rw [e5, Option.bind_some]
      exact ⟨_, _, rfl, by omega⟩
    · rw [if_pos rfl]
      obtain ⟨v5, s5, e5, h5⟩ := among_of (m := 860000000000) (list := [0, 1, 80, 81, (-9223372036854775808)]) (h4.le (by omega)) (by simp) (by simp)
      rw [e5, Option.bind_some]
      exact ⟨_, _, rfl, by omega⟩
  · rw [if_pos rfl]
    obtain ⟨v9, s9, e9, a9, b9, _, h9⟩ := pick_is (m := 875000000000) (h3.le (by omega)) (n := 2) (by omega)
    have b9 := b9 (by omega)
    rw [e9, Option.bind_some]
    simp only
    rw [wrap_i64 (by omega) (by omega), Blanks_is (by omega), Option.bind_some]
    have hl : (List.replicate (2000 + v9).toNat (32 : UInt8)).length ≤ 1000000 := by simp; omega
    obtain ⟨v4, s4, e4, h4⟩ := one_is (m := 870000000000) (h9.le (by omega)) (n := 12) (by omega)
    rw [e4, Option.bind_some]
    simp only
    cases v4
    · rw [if_neg Bool.false_ne_true]
      obtain ⟨v5, s5, e5, a5, b5, _, h5⟩ := pick_is (m := 860000000000) (h4.le (by omega)) (n := 20) (by omega)
      rw [e5, Option.bind_some]
      exact ⟨_, _, rfl, hl⟩
    · rw [if_pos rfl]
      obtain ⟨v5, s5, e5, h5⟩ := among_of (m := 860000000000) (list := [0, 1, 80, 81, (-9223372036854775808)]) (h4.le (by omega)) (by simp) (by simp)
      rw [e5, Option.bind_some]
      exact ⟨_, _, rfl, hl⟩

/-! ### Pages and pads -/

theorem dlines_loop : ∀ (k : Nat) {m : Nat} {s : L00Src} (t : List (List UInt8)), SrcN (m + 4 * k) s → t.length + k ≤ 100000 →
    (∃ t' s', whileE spec_l24DrawLines_l1 (s, t, (k : Int)) = some (s', t') ∧ t'.length ≤ 100000 ∧ SrcN m s')
  | 0, m, s, t, h, ht => ⟨t, s, whileE_done (by simp [spec_l24DrawLines_l1]), by omega, h⟩
  | k + 1, m, s, t, h, ht => by
    obtain ⟨w, s1, e1, l1, h1⟩ := Word_is (m := m + 4 * k) (s := s) (h.le (by omega))
    have hlt : decide ((0 : Int) < ((k + 1 : Nat) : Int)) = true := decide_eq_true (by omega)
    obtain ⟨t', s', e', l', h'⟩ := dlines_loop k (m := m) (s := s1) (t ++ [w]) h1 (by simp; omega)
    refine ⟨t', s', ?_, l', h'⟩
    rw [whileE_next (s' := (s1, t ++ [w], (k : Int))) (by
      simp only [spec_l24DrawLines_l1, hlt, if_true, e1, Option.bind_some]
      rw [appOk_of (by simp; omega), ck_true, wrap_i64 (by omega) (by omega)]
      congr 4
      omega), e']

theorem DrawPageOf_is {c : List UInt8} (h : c.length ≤ 1099511627776) : ∃ l e p, spec_DrawPageOf c = some (l, e, p) ∧ l.length ≤ 1000000 := by
  have h0 := srcN_from h
  obtain ⟨v1, s1, e1, a1, b1, _, h1⟩ := pick_is (m := 899000000000) (h0.le (by omega)) (n := 14) (by omega)
  have b1 := b1 (by omega)
  obtain ⟨k, rfl⟩ : ∃ k : Nat, v1 = (k : Int) := ⟨v1.toNat, by omega⟩
  obtain ⟨t, s2, e2, l2, h2⟩ := dlines_loop k (m := 890000000000) (s := s1) [] (h1.le (by omega)) (by simp; omega)
  unfold spec_DrawPageOf spec_l24DrawLines
  rw [From_is, Option.bind_some, e1, Option.bind_some]
  simp only
  rw [e2, Option.bind_some, Option.bind_some]
  simp only
  obtain ⟨v3, s3, e3, _, _, _, h3⟩ := pick_is (m := 880000000000) (h2.le (by omega)) (n := 6) (by omega)
  rw [e3, Option.bind_some]
  simp only
  obtain ⟨v4, s4, e4, h4⟩ := one_is (m := 870000000000) (h3.le (by omega)) (n := 12) (by omega)
  rw [e4, Option.bind_some]
  simp only
  cases v4
  · rw [if_neg Bool.false_ne_true]
    obtain ⟨v5, s5, e5, _, _, _, h5⟩ := pick_is (m := 860000000000) (h4.le (by omega)) (n := 5) (by omega)
    rw [e5, Option.bind_some]
    simp only
    obtain ⟨v6, s6, e6, _, _, _, h6⟩ := pick_is (m := 850000000000) (h5.le (by omega)) (n := 16) (by omega)
    rw [e6, Option.bind_some, nz_of (by omega), ck_true]
    exact ⟨_, _, _, rfl, by omega⟩
  · rw [if_pos rfl]
    obtain ⟨v9, s9, e9, h9⟩ := among_of (m := 865000000000) (list := [(-1), 0, 60, 61]) (h4.le (by omega)) (by simp) (by simp)
    rw [e9, Option.bind_some]
    simp only
    obtain ⟨v5, s5, e5, _, _, _, h5⟩ := pick_is (m := 860000000000) (h9.le (by omega)) (n := 5) (by omega)
    rw [e5, Option.bind_some]
    simp only
    obtain ⟨v6, s6, e6, _, _, _, h6⟩ := pick_is (m := 850000000000) (h5.le (by omega)) (n := 16) (by omega)
    rw [e6, Option.bind_some, nz_of (by omega), ck_true]
    exact ⟨_, _, _, rfl, by omega⟩

theorem DrawPadLeft_is {c : List UInt8} (h : c.length ≤ 1099511627776) : ∃ t w, spec_DrawPadLeft c = some (t, w) ∧ t.length ≤ 1000000 := by
  have h0 := srcN_from h
  obtain ⟨t, s1, e1, l1, h1⟩ := Word_is (m := 899000000000) (h0.le (by omega))
  obtain ⟨v2, s2, e2, h2⟩ := one_is (m := 890000000000) (h1.le (by omega)) (n := 8) (by omega)
  unfold spec_DrawPadLeft spec_l24Pad
  rw [From_is, Option.bind_some, e1, Option.bind_some]
  simp only
  rw [e2, Option.bind_some]
  simp only
  cases v2
  · rw [if_neg Bool.false_ne_true]
    obtain ⟨v5, s5, e5, _, _, _, h5⟩ := pick_is (m := 860000000000) (h2.le (by omega)) (n := 14) (by omega)
    rw [e5, Option.bind_some]
    exact ⟨t, _, rfl, by omega⟩
  · rw [if_pos rfl]
    obtain ⟨v5, s5, e5, h5⟩ := among_of (m := 860000000000) (list := [(-1), 0, (t.length : Int), 80, 81, 9223372036854775807]) (h2.le (by omega)) (by simp) (by simp)
    rw [e5, Option.bind_some]
    exact ⟨t, _, rfl, by omega⟩

end Go.Proofs.YtambhaccpbhnhaaGreatDoor
