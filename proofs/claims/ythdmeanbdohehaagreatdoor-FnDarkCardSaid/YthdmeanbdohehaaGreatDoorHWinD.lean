/- What typed forms say: draws of windows. No condition. -/
import Derived.Test.YthdmeanbdohehaaGreatDoorHWinV
import Derived.Test.YthdmeanbdohehaaGreatDoorHPD
namespace Go.Proofs.YthdmeanbdohehaaGreatDoor
open Go Go.RowKit
set_option linter.unusedSimpArgs false
set_option linter.unusedVariables false
def sS (l : List AA) : Prop := ∀ w ∈ l, 0 ≤ w.From ∧ w.From ≤ w.To ∧ w.To ≤ 10000000
theorem aN : ∀ (k : Nat) (m : Nat) (s : Aw) (out : List AA) (a : Int), k ≤ 6 → HH (m + 4 * k) s → 0 ≤ a → a ≤ 1000 - 60 * k → out.length + k ≤ 6 → sS out →
    ∃ l s', AJ Dv (s, out, a, (k : Int)) = some (s', l) ∧ l.length ≤ 6 ∧ sS l ∧ HH m s' := by
  intro k
  induction k with
  | zero =>
    intro m s out a hk hs h0 h1 ho hn
    exact ⟨out, s, Ae (by simp [Dv]), by omega, hn, hs.le (by omega)⟩
  | succ k ih =>
    intro m s out a hk hs h0 h1 ho hn
    obtain ⟨v, s1, e1, v0, v1, _, h1'⟩ := ED (m := m + 4 * k + 2) (hs.le (by omega)) (n := 30) (by omega)
    obtain ⟨z, s2, e2, z0, z1, _, h2'⟩ := ED (m := m + 4 * k) (h1'.le (by omega)) (n := 20) (by omega)
    have v1 := v1 (by omega)
    have z1 := z1 (by omega)
    have w1 : IntKind.i64.wrap (a + v) = a + v := AX (by omega) (by omega)
    have w2 : IntKind.i64.wrap (a + v + 1) = a + v + 1 := AX (by omega) (by omega)
    have w3 : IntKind.i64.wrap (a + v + 1 + z) = a + v + 1 + z := AX (by omega) (by omega)
    have w4 : IntKind.i64.wrap (((k + 1 : Nat) : Int) - 1) = (k : Int) := by rw [AX (by omega) (by omega)]; omega
    have hst : Dv (s, out, a, ((k + 1 : Nat) : Int)) = some (.inl (s2, out ++ [⟨a, a + v⟩], a + v + 1 + z, (k : Int))) := by
      unfold Dv
      dsimp only
      rw [if_pos (decide_eq_true (by omega)), e1, Option.bind_some]
      simp only [w1, w2, w4]
      rw [Bu (by simp; omega), AN, e2, Option.bind_some]
      simp only [w3]
    rw [Ah hst]
    refine ih m s2 _ _ (by omega) h2' (by omega) (by omega) (by simp; omega) (fun w hw => ?_)
    rcases List.mem_append.1 hw with h | h
    · exact hn w h
    · rw [List.mem_singleton.1 h]
      refine ⟨h0, ?_, ?_⟩
      · show a ≤ a + v; omega
      · show a + v ≤ 10000000; omega
theorem UM {m : Nat} {s : Aw} (h : HH (m + 40) s) : ∃ l s', Ez s = some (l, s') ∧ l.length ≤ 6 ∧ sS l ∧ HH m s' := by
  unfold Ez
  obtain ⟨a, s1, e1, a0, a1, _, h1⟩ := ED (m := m + 30) (h.le (by omega)) (n := 40) (by omega)
  obtain ⟨k, s2, e2, k0, k1, _, h2⟩ := ED (m := m + 26) (h1.le (by omega)) (n := 6) (by omega)
  have a1 := a1 (by omega)
  have k1 := k1 (by omega)
  obtain ⟨kn, rfl⟩ : ∃ kn : Nat, k = kn := ⟨k.toNat, by omega⟩
  obtain ⟨l, s3, e3, l1, l2, l3⟩ := aN kn m s2 [] a (by omega) (h2.le (by omega)) a0 (by omega) (by simp; omega) (fun w hw => by cases hw)
  rw [e1, Option.bind_some]
  simp only
  rw [e2, Option.bind_some]
  simp only
  rw [e3, Option.bind_some]
  exact ⟨_, _, rfl, l1, l2, l3⟩
theorem af (s : Aw) {n : Int} (h0 : 0 ≤ n) (h1 : n ≤ 31) : ∃ l, AJ (Dw s) (([] : List AA), n) = some l ∧ l.length ≤ 31 := by
  obtain ⟨y, hy, q⟩ := II (step := Dw s) (fun x => 0 ≤ x.2 ∧ (x.1.length : Int) + x.2 ≤ 31) (fun y => y.length ≤ 31) (fun x => x.2.toNat) (by
    rintro ⟨l, k⟩ ⟨k0, k1⟩
    simp only at k0 k1
    by_cases c : 0 < k
    · left
      simp only [Dw, c, decide_true, if_true]
      rw [Bu (by simp; omega), AN, AX (n := k - 1) (by omega) (by omega)]
      exact ⟨_, rfl, ⟨by show 0 ≤ k - 1; omega, by show ((l ++ [_]).length : Int) + (k - 1) ≤ 31; simp; omega⟩, by show (k - 1).toNat < k.toNat; omega⟩
    · right
      exact ⟨l, by simp [Dw, c], by omega⟩) (s := (([] : List AA), n)) ⟨h0, by simp; omega⟩
  exact ⟨y, hy, q⟩
theorem UZ {m : Nat} {s : Aw} (h : HH (m + 8) s) {L : List AA} (hL : L.length ≤ 31) : ∃ l s', (if ((L.length : Int) == 0) then
      some (L, s)
    else
      (AK s (L.length : Int)).bind fun y_9 =>
      ck (BB y_9.1 L.length) <|
      (AK y_9.2 20).bind fun y_11 =>
      if (y_11.1 == 0) then
        (AP y_11.2 ([(-1), 0, (L.getD y_9.1.toNat default).To, (IntKind.i64.wrap (((L.getD y_9.1.toNat default).To) + 1)), (-9223372036854775808)] : List Int)).bind fun y_13 =>
        some ((L.set y_9.1.toNat (AA.mk y_13.1 ((L.getD y_9.1.toNat default).To))), y_13.2)
      else
        if (y_11.1 == 1) then
          (AP y_11.2 ([(-1), (L.getD y_9.1.toNat default).From, 10000000, 10000001, 9223372036854775807] : List Int)).bind fun y_15 =>
          some ((L.set y_9.1.toNat (AA.mk ((L.getD y_9.1.toNat default).From) y_15.1)), y_15.2)
        else
          some (L, y_11.2)) = some (l, s') ∧ l.length ≤ 31 ∧ HH m s' := by
  by_cases h0 : L.length = 0
  · rw [if_pos (by simp only [beq_iff_eq]; omega)]
    exact ⟨_, _, rfl, hL, h.le (by omega)⟩
  · rw [if_neg (by simp only [beq_iff_eq]; omega)]
    obtain ⟨v, s1, e1, v0, v1, _, h1⟩ := ED (m := m + 6) (h.le (by omega)) (n := (L.length : Int)) (by omega)
    obtain ⟨z, s2, e2, _, _, _, h2⟩ := ED (m := m + 4) (h1.le (by omega)) (n := 20) (by omega)
    have v1 := v1 (by omega)
    rw [e1, Option.bind_some]
    simp only
    rw [DL v0 (by omega), AN, e2, Option.bind_some]
    simp only
    split
    · obtain ⟨x, s3, e3, _, h3⟩ := Id (m := m + 2) (h2.le (by omega)) (l := [(-1), 0, (L.getD v.toNat default).To, (IntKind.i64.wrap (((L.getD v.toNat default).To) + 1)), (-9223372036854775808)]) (by simp) (by simp)
      rw [e3]; exact ⟨_, _, rfl, by rw [List.length_set]; exact hL, h3.le (by omega)⟩
    · split
      · obtain ⟨x, s3, e3, _, h3⟩ := Id (m := m + 2) (h2.le (by omega)) (l := [(-1), (L.getD v.toNat default).From, 10000000, 10000001, 9223372036854775807]) (by simp) (by simp)
        rw [e3]; exact ⟨_, _, rfl, by rw [List.length_set]; exact hL, h3.le (by omega)⟩
      · exact ⟨_, _, rfl, hL, h2.le (by omega)⟩
theorem LL {m : Nat} {s : Aw} (h : HH (m + 100) s) : ∃ l s', DS s = some (l, s') ∧ l.length ≤ 31 ∧ HH m s' := by
  unfold DS
  obtain ⟨l, s1, e1, hl, _, h1⟩ := UM (m := m + 60) (h.le (by omega))
  obtain ⟨b, s2, e2, h2⟩ := JB (m := m + 50) (h1.le (by omega)) (n := 16) (by omega)
  rw [e1, Option.bind_some]
  simp only
  rw [e2, Option.bind_some]
  simp only
  cases b
  · simp only [Bool.false_eq_true, if_false]
    exact UZ (h2.le (by omega)) (by omega)
  · simp only [if_true]
    obtain ⟨v, s3, e3, v0, v1, _, h3⟩ := ED (m := m + 40) (h2.le (by omega)) (n := 2) (by omega)
    have v1 := v1 (by omega)
    have w : IntKind.i64.wrap (30 + v) = 30 + v := AX (by omega) (by omega)
    obtain ⟨L, e4, hL⟩ := af s3 (n := 30 + v) (by omega) (by omega)
    rw [e3, Option.bind_some]
    simp only
    rw [w, e4, Option.bind_some]
    exact UZ (h3.le (by omega)) hL
theorem ZU {c : List UInt8} (h : c.length ≤ 1099511627776) : ∃ a b d, EN c = some (a, b, d) ∧ a.length ≤ 31 ∧ b.length ≤ 31 ∧ d.length ≤ 31 := by
  unfold EN
  obtain ⟨a, s1, e1, ha, h1⟩ := LL (m := 10000) ((IC h).le (by omega))
  obtain ⟨b, s2, e2, hb, h2⟩ := LL (m := 9000) (h1.le (by omega))
  obtain ⟨o, s3, e3, h3⟩ := JB (m := 8000) (h2.le (by omega)) (n := 12) (by omega)
  rw [Lk, Option.bind_some, e1, Option.bind_some]
  simp only
  rw [e2, Option.bind_some]
  simp only
  rw [e3, Option.bind_some]
  simp only
  split
  · exact ⟨_, _, _, rfl, ha, by simp, hb⟩
  · obtain ⟨d, s4, e4, hd, _⟩ := LL (m := 7000) (h3.le (by omega))
    rw [e4]
    exact ⟨_, _, _, rfl, ha, hb, hd⟩
theorem ZV {c : List UInt8} (h : c.length ≤ 1099511627776) : ∃ l, Cw c = some l ∧ Dd c = some l ∧ l.length ≤ 31 := by
  unfold Cw Dd
  obtain ⟨l, s1, e1, hl, h1⟩ := LL (m := 10000) ((IC h).le (by omega))
  rw [Lk, Option.bind_some, e1]
  exact ⟨l, rfl, rfl, hl⟩
theorem ZT {c : List UInt8} (h : c.length ≤ 1099511627776) : ∃ l n, Dg c = some (l, n) ∧ l.length ≤ 31 := by
  unfold Dg
  obtain ⟨l, s1, e1, hl, h1⟩ := LL (m := 10000) ((IC h).le (by omega))
  obtain ⟨o, s3, e3, h3⟩ := JB (m := 8000) (h1.le (by omega)) (n := 10) (by omega)
  rw [Lk, Option.bind_some, e1, Option.bind_some]
  simp only
  rw [e3, Option.bind_some]
  simp only
  split
  · obtain ⟨x, s4, e4, _⟩ := Id (m := 7000) (h3.le (by omega)) (l := [0, 1, 10000001, 10000002]) (by simp) (by simp)
    rw [e4]; exact ⟨_, _, rfl, hl⟩
  · obtain ⟨x, s4, e4, _⟩ := ED (m := 7000) (h3.le (by omega)) (n := 30) (by omega)
    rw [e4]; exact ⟨_, _, rfl, hl⟩
theorem Xk {c : List UInt8} (h : c.length ≤ 1099511627776) : ∃ s, Df c = some s ∧ s.length ≤ 1048576 := by
  unfold Df
  obtain ⟨l, s1, e1, hl, hn, h1⟩ := UM (m := 10000) ((IC h).le (by omega))
  obtain ⟨o, s3, e3, h3⟩ := JB (m := 8000) (h1.le (by omega)) (n := 3) (by omega)
  have ht := IU 32 (l.map Cs) 44 (fun p hp => by
    obtain ⟨w, hw, rfl⟩ := List.mem_map.1 hp
    exact IP (hn w hw))
  rw [List.length_map] at ht
  have ht' : (CM l).length ≤ 1000 := by unfold CM; omega
  rw [Lk, Option.bind_some, e1, Option.bind_some]
  simp only
  rw [Te (by omega) hn, Option.bind_some, e3, Option.bind_some]
  simp only
  split
  · obtain ⟨x, s4, e4, hx⟩ := YX (m := 7000) (h3.le (by omega)) (t := CM l) (by omega)
    rw [e4]; exact ⟨_, rfl, by show x.length ≤ _; omega⟩
  · exact ⟨_, rfl, by omega⟩
theorem Xj {c : List UInt8} (h : c.length ≤ 1099511627776) : ∃ a b, De c = some (a, b) ∧ a.length ≤ 100 ∧ b.length ≤ 100 := by
  unfold De
  obtain ⟨l, s1, e1, hl, hn, h1⟩ := UM (m := 10000) ((IC h).le (by omega))
  rw [Lk, Option.bind_some, e1, Option.bind_some]
  simp only [List.nil_append]
  rw [Bu (by simp; omega), AN]
  have tail : ∀ {m : Nat} {s : Aw} (b : List AA), HH (m + 2) s → b.length ≤ 60 → ∃ a' b', ((AS s 5).bind fun y_12 =>
      if y_12.1 then
        ck (Cr (b.length + ([(AA.mk 0 0)] : List AA).length) 16) <|
        some (l, (b ++ ([(AA.mk 0 0)] : List AA)))
      else
        some (l, b)) = some (a', b') ∧ a'.length ≤ 100 ∧ b'.length ≤ 100 := by
    intro m s b hs hb
    obtain ⟨v, s', e, _⟩ := JB (m := m) hs (n := 5) (by omega)
    rw [e, Option.bind_some]
    simp only
    split
    · rw [Bu (by simp; omega), AN]
      exact ⟨_, _, rfl, by omega, by simp; omega⟩
    · exact ⟨_, _, rfl, by omega, by omega⟩
  by_cases hp : 0 < (l.length : Int)
  · rw [decide_eq_true hp]
    simp only [if_true]
    obtain ⟨b, s2, e2, h2⟩ := JB (m := 9000) (h1.le (by omega)) (n := 2) (by omega)
    rw [e2, Option.bind_some]
    simp only [Bool.true_and]
    split
    · rw [DL (by omega) (by omega), AN]
      obtain ⟨v, s3, e3, _, _, _, h3⟩ := ED (m := 8000) (h2.le (by omega)) (n := 2) (by omega)
      rw [e3, Option.bind_some]
      exact tail (m := 7000) _ (h3.le (by omega)) (by rw [List.length_set]; omega)
    · exact tail (m := 7000) l (h2.le (by omega)) (by omega)
  · rw [decide_eq_false hp]
    simp only [Bool.false_eq_true, if_false]
    exact tail (m := 7000) l (h1.le (by omega)) (by omega)
theorem nt1 {m : Nat} {s : Aw} (h : HH (m + 10) s) (A B d : Int) : ∃ p q r t, ((AS s 12).bind fun y_18 =>
        if y_18.1 then
          (AP y_18.2 ([(-1), 0, (IntKind.i64.wrap (d - 1)), d, 10000] : List Int)).bind fun y_20 =>
          some (A, B, d, y_20.1)
        else
          (AK y_18.2 2000).bind fun y_21 =>
          some (A, B, d, (IntKind.i64.wrap (1000 + y_21.1)))) = some (p, q, r, t) := by
  obtain ⟨o, s3, e3, h3⟩ := JB (m := m + 6) (h.le (by omega)) (n := 12) (by omega)
  rw [e3, Option.bind_some]
  simp only
  split
  · obtain ⟨x, s4, e4, _⟩ := Id (m := m) (h3.le (by omega)) (l := [(-1), 0, (IntKind.i64.wrap (d - 1)), d, 10000]) (by simp) (by simp)
    rw [e4]; exact ⟨_, _, _, _, rfl⟩
  · obtain ⟨x, s4, e4, _⟩ := ED (m := m) (h3.le (by omega)) (n := 2000) (by omega)
    rw [e4]; exact ⟨_, _, _, _, rfl⟩
theorem nt2 {m : Nat} {s : Aw} (h : HH (m + 30) s) (A B : Int) : ∃ p q r t, ((AK s 2000).bind fun y_10 =>
      (AS y_10.2 12).bind fun y_11 =>
      if y_11.1 then
        (AP y_11.2 ([(-1), 0, 1, 9999, 10000] : List Int)).bind fun y_13 =>
        (AS y_13.2 12).bind fun y_14 =>
        if y_14.1 then
          (AP y_14.2 ([(-1), 0, (IntKind.i64.wrap (y_13.1 - 1)), y_13.1, 10000] : List Int)).bind fun y_16 =>
          some (A, B, y_13.1, y_16.1)
        else
          (AK y_14.2 2000).bind fun y_17 =>
          some (A, B, y_13.1, (IntKind.i64.wrap (1000 + y_17.1)))
      else
        (AS y_11.2 12).bind fun y_18 =>
        if y_18.1 then
          (AP y_18.2 ([(-1), 0, (IntKind.i64.wrap ((IntKind.i64.wrap (7000 + y_10.1)) - 1)), (IntKind.i64.wrap (7000 + y_10.1)), 10000] : List Int)).bind fun y_20 =>
          some (A, B, (IntKind.i64.wrap (7000 + y_10.1)), y_20.1)
        else
          (AK y_18.2 2000).bind fun y_21 =>
          some (A, B, (IntKind.i64.wrap (7000 + y_10.1)), (IntKind.i64.wrap (1000 + y_21.1)))) = some (p, q, r, t) := by
  obtain ⟨x, s1, e1, _, _, _, h1⟩ := ED (m := m + 26) (h.le (by omega)) (n := 2000) (by omega)
  obtain ⟨o, s2, e2, h2⟩ := JB (m := m + 20) (h1.le (by omega)) (n := 12) (by omega)
  rw [e1, Option.bind_some]
  simp only
  rw [e2, Option.bind_some]
  simp only
  split
  · obtain ⟨z, s4, e4, _, h4⟩ := Id (m := m + 12) (h2.le (by omega)) (l := [(-1), 0, 1, 9999, 10000]) (by simp) (by simp)
    rw [e4, Option.bind_some]
    exact nt1 (m := m) (h4.le (by omega)) A B z
  · exact nt1 (m := m) (h2.le (by omega)) A B _
theorem Ux {c : List UInt8} (h : c.length ≤ 1099511627776) : ∃ p q r t, Dz c = some (p, q, r, t) := by
  unfold Dz
  obtain ⟨x, s1, e1, _, _, _, h1⟩ := ED (m := 10000) ((IC h).le (by omega)) (n := 900) (by omega)
  obtain ⟨o, s2, e2, h2⟩ := JB (m := 9000) (h1.le (by omega)) (n := 8) (by omega)
  rw [Lk, Option.bind_some, e1, Option.bind_some]
  simp only
  rw [e2, Option.bind_some]
  simp only
  have tail : ∀ (A : Int) {s : Aw}, HH 8000 s → ∃ p q r t, ((AK s 8).bind fun y_6 =>
      (AS y_6.2 10).bind fun y_7 =>
      if y_7.1 then
        (AP y_7.2 ([(-1), 0, 30, 31] : List Int)).bind fun y_9 =>
        (AK y_9.2 2000).bind fun y_10 =>
        (AS y_10.2 12).bind fun y_11 =>
        if y_11.1 then
          (AP y_11.2 ([(-1), 0, 1, 9999, 10000] : List Int)).bind fun y_13 =>
          (AS y_13.2 12).bind fun y_14 =>
          if y_14.1 then
            (AP y_14.2 ([(-1), 0, (IntKind.i64.wrap (y_13.1 - 1)), y_13.1, 10000] : List Int)).bind fun y_16 =>
            some (A, y_9.1, y_13.1, y_16.1)
          else
            (AK y_14.2 2000).bind fun y_17 =>
            some (A, y_9.1, y_13.1, (IntKind.i64.wrap (1000 + y_17.1)))
        else
          (AS y_11.2 12).bind fun y_18 =>
          if y_18.1 then
            (AP y_18.2 ([(-1), 0, (IntKind.i64.wrap ((IntKind.i64.wrap (7000 + y_10.1)) - 1)), (IntKind.i64.wrap (7000 + y_10.1)), 10000] : List Int)).bind fun y_20 =>
            some (A, y_9.1, (IntKind.i64.wrap (7000 + y_10.1)), y_20.1)
          else
            (AK y_18.2 2000).bind fun y_21 =>
            some (A, y_9.1, (IntKind.i64.wrap (7000 + y_10.1)), (IntKind.i64.wrap (1000 + y_21.1)))
      else
        (AK y_7.2 2000).bind fun y_22 =>
        (AS y_22.2 12).bind fun y_23 =>
        if y_23.1 then
          (AP y_23.2 ([(-1), 0, 1, 9999, 10000] : List Int)).bind fun y_25 =>
          (AS y_25.2 12).bind fun y_26 =>
          if y_26.1 then
            (AP y_26.2 ([(-1), 0, (IntKind.i64.wrap (y_25.1 - 1)), y_25.1, 10000] : List Int)).bind fun y_28 =>
            some (A, y_6.1, y_25.1, y_28.1)
          else
            (AK y_26.2 2000).bind fun y_29 =>
            some (A, y_6.1, y_25.1, (IntKind.i64.wrap (1000 + y_29.1)))
        else
          (AS y_23.2 12).bind fun y_30 =>
          if y_30.1 then
            (AP y_30.2 ([(-1), 0, (IntKind.i64.wrap ((IntKind.i64.wrap (7000 + y_22.1)) - 1)), (IntKind.i64.wrap (7000 + y_22.1)), 10000] : List Int)).bind fun y_32 =>
            some (A, y_6.1, (IntKind.i64.wrap (7000 + y_22.1)), y_32.1)
          else
            (AK y_30.2 2000).bind fun y_33 =>
            some (A, y_6.1, (IntKind.i64.wrap (7000 + y_22.1)), (IntKind.i64.wrap (1000 + y_33.1)))) = some (p, q, r, t) := by
    intro A s hs
    obtain ⟨v, s1, e1, _, _, _, h1⟩ := ED (m := 7000) (hs.le (by omega)) (n := 8) (by omega)
    obtain ⟨o, s2, e2, h2⟩ := JB (m := 6000) (h1.le (by omega)) (n := 10) (by omega)
    rw [e1, Option.bind_some]
    simp only
    rw [e2, Option.bind_some]
    simp only
    split
    · obtain ⟨z, s4, e4, _, h4⟩ := Id (m := 5000) (h2.le (by omega)) (l := [(-1), 0, 30, 31]) (by simp) (by simp)
      rw [e4, Option.bind_some]
      exact nt2 (m := 100) (h4.le (by omega)) A z
    · exact nt2 (m := 100) (h2.le (by omega)) A v
  split
  · obtain ⟨z, s4, e4, _, h4⟩ := Id (m := 8000) (h2.le (by omega)) (l := [(-1), 0, 980, 999, 1000]) (by simp) (by simp)
    rw [e4, Option.bind_some]
    exact tail z h4
  · exact tail x (h2.le (by omega))
end Go.Proofs.YthdmeanbdohehaaGreatDoor
