/- What typed forms say: the packed form of estimates. No condition. -/
import Derived.Test.YtgbopjgnggdhkaaHEst
import Derived.Test.YtgbopjgnggdhkaaHNum
import Derived.Test.YtgbopjgnggdhkaaHClose
import Derived.Test.YtgbopjgnggdhkaaHNamesO
import Derived.Test.YtgbopjgnggdhkaaHNamesS
namespace Go.Proofs.Ytgbopjgnggdhkaa
open Go Go.RowKit
set_option linter.unusedSimpArgs false
set_option linter.unusedVariables false

/-! ### Names are put -/

theorem putNames_is {b : List UInt8} {ns : List Bs} (hn : ns.length ≤ 1000) (hs : ∀ x ∈ ns, x.length ≤ 100) (hb : b.length ≤ 1000000) :
    ∃ l, l.length ≤ b.length + 10 + 110 * ns.length ∧ spec_l25PutNames b ns = some l ∧ impl_appendNames b ns = some l := by
  obtain ⟨l0, n0, e0, f0⟩ := number_is (n := (ns.length : Int)) (by omega) (by omega)
  have step : ∀ s : List UInt8 × Int, (∃ i : Nat, s.2 = (i : Int) ∧ i ≤ ns.length ∧ s.1.length ≤ b.length + 10 + 110 * i) →
      ∃ r, spec_l25PutNames_l1 ns s = some r ∧ impl_appendNames_l1 ns (ns.length : Int) s = some r ∧ ((∃ s', r = .inl s' ∧ (∃ i : Nat, s'.2 = (i : Int) ∧ i ≤ ns.length ∧ s'.1.length ≤ b.length + 10 + 110 * i) ∧ s'.2 = s.2 + 1 ∧ s.2 < ns.length) ∨ ∃ o, r = .inr o ∧ o.length ≤ b.length + 10 + 110 * ns.length) := by
    rintro ⟨out, ii⟩ ⟨i, rfl, hi, ho⟩
    simp only at ho
    by_cases hlt : i < ns.length
    · have hx := hs _ (getD_mem hlt default)
      obtain ⟨l1, n1, e1, f1⟩ := number_is (n := ((ns.getD i default).length : Int)) (by omega) (by omega)
      refine ⟨.inl (out ++ l1 ++ ns.getD i default, ((i + 1 : Nat) : Int)), ?_, ?_, .inl ⟨_, rfl, ⟨i + 1, rfl, by omega, by simp only [List.length_append]; omega⟩, by simp, by simpa using hlt⟩⟩
      · simp only [spec_l25PutNames_l1, Int.ofNat_lt, hlt, decide_true, if_true, ixOk_nat, ck_true, Int.toNat_natCast, wrap_nat1 (show i < 9223372036854775807 by omega), e1, Option.bind_some]
        rw [appOk_of (by omega), appOk_of (by simp only [List.length_append]; omega), ck_true, ck_true]
      · simp only [impl_appendNames_l1, Int.ofNat_lt, hlt, decide_true, if_true, ixOk_nat, ck_true, Int.toNat_natCast, wrap_nat1 (show i < 9223372036854775807 by omega), f1 out (by omega), Option.bind_some]
        rw [appOk_of (by simp only [List.length_append]; omega), ck_true]
    · have hie : i = ns.length := by omega
      exact ⟨.inr out, by simp [spec_l25PutNames_l1, hlt], by simp [impl_appendNames_l1, hlt], .inr ⟨out, rfl, by rw [← hie]; exact ho⟩⟩
  have hi0 : ∃ i : Nat, ((b ++ l0, (0 : Int)) : List UInt8 × Int).2 = (i : Int) ∧ i ≤ ns.length ∧ ((b ++ l0, (0 : Int)) : List UInt8 × Int).1.length ≤ b.length + 10 + 110 * i := ⟨0, rfl, by omega, by simp only [List.length_append]; omega⟩
  obtain ⟨y, hy, hq⟩ := while_post (step := spec_l25PutNames_l1 ns) (fun s => ∃ i : Nat, s.2 = (i : Int) ∧ i ≤ ns.length ∧ s.1.length ≤ b.length + 10 + 110 * i) (fun o => o.length ≤ b.length + 10 + 110 * ns.length) (fun s => ns.length - s.2.toNat) (by
    intro s hs
    obtain ⟨r, h1, _, h3⟩ := step s hs
    obtain ⟨i, hi, _⟩ := hs
    rcases h3 with ⟨s', rfl, h4, h5, h6⟩ | ⟨o, rfl, h4⟩
    · exact .inl ⟨s', h1, h4, by rw [h5, hi]; rw [hi] at h6; omega⟩
    · exact .inr ⟨o, h1, h4⟩) hi0
  have hy2 : whileE (impl_appendNames_l1 ns (ns.length : Int)) (b ++ l0, 0) = some y := by
    rw [← hy]
    refine (while_congr (fun s => ∃ i : Nat, s.2 = (i : Int) ∧ i ≤ ns.length ∧ s.1.length ≤ b.length + 10 + 110 * i) (fun s hs => ?_) (fun s s' hs e => ?_) hi0).symm
    · obtain ⟨r, h1, h2, _⟩ := step s hs
      rw [h1, h2]
    · obtain ⟨r, h1, h2, h3⟩ := step s hs
      rw [h1] at e
      rcases h3 with ⟨s2, rfl, h4, _⟩ | ⟨o, rfl, _⟩
      · cases e; exact h4
      · cases e
  refine ⟨y, hq, ?_, ?_⟩
  · unfold spec_l25PutNames
    simp only [e0, Option.bind_some]
    rw [appOk_of (by omega), ck_true, hy]
    rfl
  · unfold impl_appendNames impl_count_string
    simp only [Option.bind_some, f0 b (by omega), hy2]

/-! ### Where a name stands -/

theorem place_is {ns : List Bs} (hl : ns.length ≤ 100000) {x : Bs} (hx : x ∈ ns) : ∃ k : Nat, k < ns.length ∧ spec_l25Find ns x = some (k : Int) ∧ impl_placeOf ns x = some (k : Int) ∧ ns.getD k default = x := by
  obtain ⟨k, hk⟩ : ∃ k, (List.range ns.length).find? (fun k => ns.getD k default == x) = some k := by
    have : ((List.range ns.length).find? (fun k => ns.getD k default == x)).isSome = true := by
      rw [find_any ns (fun y => y == x), List.any_eq_true]
      exact ⟨x, hx, by simp⟩
    exact Option.isSome_iff_exists.1 this
  have hk2 := List.find?_range_eq_some.1 hk
  have hkl : k < ns.length := by simpa using hk2.2.1
  refine ⟨k, hkl, ?_, ?_, by simpa using hk2.1⟩
  · unfold spec_l25Find
    rw [while_find (step := spec_l25Find_l1 ns x) (fun k => ns.getD k default == x) (fun k => (k : Int)) ns.length
      (fun k hk => by
        simp only [spec_l25Find_l1, ixOk_nat, hk, decide_true, ck_true, Int.ofNat_lt, if_true, Int.toNat_natCast, wrap_nat1 (show k < 9223372036854775807 by omega)]
        cases (ns.getD k default == x) <;> rfl)
      (by simp [spec_l25Find_l1]), hk]
    rfl
  · unfold impl_placeOf impl_indexOf_string__impl_placeOf_c1 slices_IndexFunc_string_string__impl_placeOf_c1
    rw [while_find (step := slices_IndexFunc_string_string__impl_placeOf_c1_l1 ns x (ns.length : Int)) (fun k => ns.getD k default == x) (fun k => (k : Int)) ns.length
      (fun k hk => by
        simp only [slices_IndexFunc_string_string__impl_placeOf_c1_l1, impl_placeOf_c1, ixOk_nat, hk, decide_true, ck_true, Int.ofNat_lt, if_true, Int.toNat_natCast, wrap_nat1 (show k < 9223372036854775807 by omega), Option.bind_some]
        cases (ns.getD k default == x) <;> rfl)
      (by simp [slices_IndexFunc_string_string__impl_placeOf_c1_l1]), hk]
    simp

/-! ### Valid estimates -/

theorem beforeE_time {a b : Estimate} (h : beforeE a b = true) : a.Time ≤ b.Time := by
  unfold beforeE at h
  split at h
  · omega
  · have := of_decide_eq_true h; omega

theorem goodE_at {l : List Estimate} (h : goodE l = true) {i : Nat} (hi : i < l.length) : oneE (l.getD i default) = true ∧ (0 < i → beforeE (l.getD (i - 1) default) (l.getD i default) = true) := by
  unfold goodE at h
  have := all_range' h hi
  simp only [okE, Bool.and_eq_true, Bool.not_eq_true', Bool.and_eq_false_iff, decide_eq_false_iff_not, Bool.not_eq_false'] at this
  refine ⟨this.1, fun h0 => ?_⟩
  rcases this.2 with c | c
  · exact absurd h0 c
  · exact c

theorem oneE_at {e : Estimate} (h : oneE e = true) : 0 ≤ e.Time ∧ e.Time ≤ 10000000 ∧ -2000 ≤ e.Mag ∧ e.Mag ≤ 20000 ∧ e.Star.length ≤ 12 ∧ e.Observer.length ≤ 12 := by
  unfold oneE nameB at h
  simp only [Bool.and_eq_true, decide_eq_true_eq] at h
  exact ⟨h.1.1.1.1, h.1.1.1.2, h.2.1, h.2.2, h.1.1.2.2.1, h.1.2.2.1⟩

/-! ### The packed form -/

def paInv (l : List Estimate) (B : Nat) (s : List UInt8 × Int × Int × Int) : Prop :=
  ∃ i : Nat, s.2.2.2 = (i : Int) ∧ i ≤ l.length ∧ s.1.length ≤ B + 40 * i ∧ s.2.1 = (if i = 0 then 0 else (l.getD (i - 1) default).Time) ∧ s.2.2.1 = (if i = 0 then 0 else (l.getD (i - 1) default).Mag)

theorem four_l2 {ss os : List Bs} {e : Estimate} {t30 : List Estimate} {t31 t32 : Int} {a1 a2 a3 a4 : Int} {p1 p2 p3 p4 b : List UInt8} (hb : b.length ≤ 1000000) (n1 : p1.length ≤ 10) (n2 : p2.length ≤ 10) (n3 : p3.length ≤ 10)
    (f1 : ∀ b : List UInt8, b.length ≤ 1099511627776 → impl_appendNumber b a1 = some (b ++ p1)) (f2 : ∀ b : List UInt8, b.length ≤ 1099511627776 → impl_appendNumber b a2 = some (b ++ p2))
    (f3 : ∀ b : List UInt8, b.length ≤ 1099511627776 → impl_appendNumber b a3 = some (b ++ p3)) (f4 : ∀ b : List UInt8, b.length ≤ 1099511627776 → impl_appendNumber b a4 = some (b ++ p4)) :
    whileE (impl_PackEstimates_l2 ss os e t30 t31 t32 [a1, a2, a3, a4] (([a1, a2, a3, a4] : List Int).length : Int)) (b, 0) = some (b ++ p1 ++ p2 ++ p3 ++ p4) ∧
    whileE (impl_PackEstimates_l3 ss os e t30 t31 t32 [a1, a2, a3, a4] (([a1, a2, a3, a4] : List Int).length : Int)) (b, 0) = some (b ++ p1 ++ p2 ++ p3 ++ p4) := by
  have w : ∀ i : Nat, i < 4 → IntKind.i64.wrap ((i : Int) + 1) = ((i + 1 : Nat) : Int) := fun i hi => wrap_nat1 (by omega)
  have w0 := w 0 (by omega); have w1 := w 1 (by omega); have w2 := w 2 (by omega); have w3 := w 3 (by omega)
  have g1 := f1 b (by omega)
  have g2 := f2 (b ++ p1) (by simp only [List.length_append]; omega)
  have g3 := f3 (b ++ p1 ++ p2) (by simp only [List.length_append]; omega)
  have g4 := f4 (b ++ p1 ++ p2 ++ p3) (by simp only [List.length_append]; omega)
  constructor
  · rw [whileE_next (s' := (b ++ p1, ((1 : Nat) : Int))), whileE_next (s' := (b ++ p1 ++ p2, ((2 : Nat) : Int))), whileE_next (s' := (b ++ p1 ++ p2 ++ p3, ((3 : Nat) : Int))), whileE_next (s' := (b ++ p1 ++ p2 ++ p3 ++ p4, ((4 : Nat) : Int)))]
    · exact whileE_done (by simp [impl_PackEstimates_l2])
    · simp [impl_PackEstimates_l2, ixOk, ck_true, ← List.append_assoc, g4]; rfl
    · simp [impl_PackEstimates_l2, ixOk, ck_true, ← List.append_assoc, g3]; rfl
    · simp [impl_PackEstimates_l2, ixOk, ck_true, ← List.append_assoc, g2]; rfl
    · simp [impl_PackEstimates_l2, ixOk, ck_true, ← List.append_assoc, g1]; rfl
  · rw [whileE_next (s' := (b ++ p1, ((1 : Nat) : Int))), whileE_next (s' := (b ++ p1 ++ p2, ((2 : Nat) : Int))), whileE_next (s' := (b ++ p1 ++ p2 ++ p3, ((3 : Nat) : Int))), whileE_next (s' := (b ++ p1 ++ p2 ++ p3 ++ p4, ((4 : Nat) : Int)))]
    · exact whileE_done (by simp [impl_PackEstimates_l3])
    · simp [impl_PackEstimates_l3, ixOk, ck_true, ← List.append_assoc, g4]; rfl
    · simp [impl_PackEstimates_l3, ixOk, ck_true, ← List.append_assoc, g3]; rfl
    · simp [impl_PackEstimates_l3, ixOk, ck_true, ← List.append_assoc, g2]; rfl
    · simp [impl_PackEstimates_l3, ixOk, ck_true, ← List.append_assoc, g1]; rfl

theorem pa_step {l : List Estimate} {B : Nat} (hB : B ≤ 100000) (hg : goodE l = true) (hl : l.length ≤ 100) {ss os : List Bs} (h1 : ss.length ≤ 10000) (h2 : os.length ≤ 10000) (m1 : ∀ x ∈ starL l, x ∈ ss) (m2 : ∀ x ∈ obsL l, x ∈ os)
    {s : List UInt8 × Int × Int × Int} (h : paInv l B s) :
    (∃ r, spec_l25Estimates_l1 l ss os s = some r ∧ impl_PackEstimates_l1 ss os l (l.length : Int) s = some r ∧ ((∃ s', r = .inl s' ∧ paInv l B s' ∧ s'.2.2.2 = s.2.2.2 + 1 ∧ s.2.2.2 < l.length) ∨ ∃ o, r = .inr o ∧ o.length ≤ B + 4000)) := by
  obtain ⟨out, time, mag, ii⟩ := s
  obtain ⟨i, rfl, hi, ho, ht, hm⟩ := h
  simp only at ho ht hm
  by_cases hlt : i < l.length
  · obtain ⟨q1, q2⟩ := goodE_at hg hlt
    obtain ⟨g1, g2, g3, g4, _, _⟩ := oneE_at q1
    have time0 : 0 ≤ (l.getD i default).Time - time ∧ (l.getD i default).Time - time ≤ 10000000 := by
      rw [ht]
      split
      · omega
      · obtain ⟨r1, r2, _⟩ := oneE_at (goodE_at hg (show i - 1 < l.length by omega)).1
        have := beforeE_time (q2 (by omega)); omega
    have mag0 : -100000 ≤ (l.getD i default).Mag - mag ∧ (l.getD i default).Mag - mag ≤ 100000 := by
      rw [hm]
      split
      · omega
      · obtain ⟨_, _, r3, r4, _⟩ := oneE_at (goodE_at hg (show i - 1 < l.length by omega)).1
        omega
    obtain ⟨k1, kl1, ka1, kb1, _⟩ := place_is (by omega) (m1 _ (List.mem_map_of_mem (getD_mem hlt default)))
    obtain ⟨k2, kl2, ka2, kb2, _⟩ := place_is (by omega) (m2 _ (List.mem_map_of_mem (getD_mem hlt default)))
    obtain ⟨p1, n1, e1, f1⟩ := number_is time0.1 (by omega)
    obtain ⟨p2, n2, e2, f2⟩ := number_is (n := (k1 : Int)) (by omega) (by omega)
    obtain ⟨d1, d2⟩ := fold_is (n := (l.getD i default).Mag - mag) (by omega) (by omega)
    obtain ⟨x1, x2⟩ := foldN_in mag0.1 mag0.2
    obtain ⟨p4, n4, e4, f4⟩ := number_is x1 (by omega)
    have w1 : IntKind.i64.wrap ((l.getD i default).Time - time) = (l.getD i default).Time - time := wrap_i64 (by omega) (by omega)
    have w2 : IntKind.i64.wrap ((l.getD i default).Mag - mag) = (l.getD i default).Mag - mag := wrap_i64 (by omega) (by omega)
    have w3 : IntKind.i64.wrap (2 * (k2 : Int)) = 2 * (k2 : Int) := wrap_i64 (by omega) (by omega)
    have w4 : IntKind.i64.wrap (2 * (k2 : Int) + 1) = 2 * (k2 : Int) + 1 := wrap_i64 (by omega) (by omega)
    cases hf : (l.getD i default).Fainter
    · obtain ⟨p3, n3, e3, f3⟩ := number_is (n := 2 * (k2 : Int)) (by omega) (by omega)
      refine ⟨.inl (out ++ p1 ++ p2 ++ p3 ++ p4, (l.getD i default).Time, (l.getD i default).Mag, ((i + 1 : Nat) : Int)), ?_, ?_, .inl ⟨_, rfl, ⟨i + 1, rfl, by omega, by simp only [List.length_append]; omega, by simp, by simp⟩, by simp, by simpa using hlt⟩⟩
      · simp only [spec_l25Estimates_l1, Int.ofNat_lt, hlt, decide_true, if_true, ixOk_nat, ck_true, Int.toNat_natCast, wrap_nat1 (show i < 9223372036854775807 by omega), w1, w2, w3, e1, e2, e3, e4, d1, ka1, ka2, hf, Option.bind_some, Bool.false_eq_true, if_false]
        rw [appOk_of (by omega), appOk_of (by simp only [List.length_append]; omega), appOk_of (by simp only [List.length_append]; omega), appOk_of (by simp only [List.length_append]; omega), ck_true, ck_true, ck_true, ck_true]
      · simp only [impl_PackEstimates_l1, Int.ofNat_lt, hlt, decide_true, if_true, ixOk_nat, ck_true, Int.toNat_natCast, wrap_nat1 (show i < 9223372036854775807 by omega), w1, w2, w3, d2, kb1, kb2, hf, Option.bind_some, Bool.false_eq_true, if_false]
        rw [(four_l2 (by omega) n1 n2 n3 f1 f2 f3 f4).2]
        rfl
    · obtain ⟨p3, n3, e3, f3⟩ := number_is (n := 2 * (k2 : Int) + 1) (by omega) (by omega)
      refine ⟨.inl (out ++ p1 ++ p2 ++ p3 ++ p4, (l.getD i default).Time, (l.getD i default).Mag, ((i + 1 : Nat) : Int)), ?_, ?_, .inl ⟨_, rfl, ⟨i + 1, rfl, by omega, by simp only [List.length_append]; omega, by simp, by simp⟩, by simp, by simpa using hlt⟩⟩
      · simp only [spec_l25Estimates_l1, Int.ofNat_lt, hlt, decide_true, if_true, ixOk_nat, ck_true, Int.toNat_natCast, wrap_nat1 (show i < 9223372036854775807 by omega), w1, w2, w3, w4, e1, e2, e3, e4, d1, ka1, ka2, hf, Option.bind_some]
        rw [appOk_of (by omega), appOk_of (by simp only [List.length_append]; omega), appOk_of (by simp only [List.length_append]; omega), appOk_of (by simp only [List.length_append]; omega), ck_true, ck_true, ck_true, ck_true]
      · simp only [impl_PackEstimates_l1, Int.ofNat_lt, hlt, decide_true, if_true, ixOk_nat, ck_true, Int.toNat_natCast, wrap_nat1 (show i < 9223372036854775807 by omega), w1, w2, w3, w4, d2, kb1, kb2, hf, Option.bind_some]
        rw [(four_l2 (by omega) n1 n2 n3 f1 f2 f3 f4).1]
        rfl
  · exact ⟨.inr out, by simp [spec_l25Estimates_l1, hlt], by simp [impl_PackEstimates_l1, hlt], .inr ⟨out, rfl, by omega⟩⟩

theorem Pack_is {l : List Estimate} (hl : l.length ≤ 1048576) : if (goodE l && decide (l.length ≤ 100)) = true then ∃ p, p.length ≤ 30000 ∧ spec_l25Estimates l = some p ∧ impl_PackEstimates l = some (p, 0) else impl_PackEstimates l = some ([], 1) := by
  unfold impl_PackEstimates
  rw [ValidEstimates_is (by omega)]
  simp only [Option.bind_some, ite_b]
  cases hg : (goodE l && decide (l.length ≤ 100))
  · rfl
  · simp only [Bool.and_eq_true, decide_eq_true_eq] at hg
    obtain ⟨hg, hc⟩ := hg
    obtain ⟨ss, a1, a2, a3, a4, a5⟩ := star_names (l := l) (by omega)
    obtain ⟨os, b1, b2, b3, b4, b5⟩ := obs_names (l := l) (by omega)
    have ls : ∀ x ∈ ss, x.length ≤ 100 := fun x hx => by
      obtain ⟨e, he, rfl⟩ := List.mem_map.1 ((a5 x).1 hx)
      obtain ⟨i, hi, rfl⟩ := List.getElem_of_mem he
      have := (oneE_at (goodE_at hg hi).1).2.2.2.2.1
      rw [getD_lt hi] at this; omega
    have lo : ∀ x ∈ os, x.length ≤ 100 := fun x hx => by
      obtain ⟨e, he, rfl⟩ := List.mem_map.1 ((b5 x).1 hx)
      obtain ⟨i, hi, rfl⟩ := List.getElem_of_mem he
      have := (oneE_at (goodE_at hg hi).1).2.2.2.2.2
      rw [getD_lt hi] at this; omega
    obtain ⟨q1, c1, c2, c3⟩ := putNames_is (b := [69]) (ns := ss) (by omega) ls (by simp)
    simp only [List.length_singleton] at c1
    obtain ⟨q2, d1, d2, d3⟩ := putNames_is (b := q1) (ns := os) (by omega) lo (by omega)
    obtain ⟨l0, n0, e0, f0⟩ := number_is (n := (l.length : Int)) (by omega) (by omega)
    have hB : q2.length + 10 ≤ 100000 := by omega
    have hi0 : paInv l (q2.length + 10) (q2 ++ l0, 0, 0, 0) := ⟨0, rfl, by omega, by simp only [List.length_append]; omega, rfl, rfl⟩
    have st := fun s hs => pa_step (s := s) hB hg hc (ss := ss) (os := os) (by omega) (by omega) (fun x hx => (a5 x).2 hx) (fun x hx => (b5 x).2 hx) hs
    obtain ⟨y, hy, hq⟩ := while_post (step := spec_l25Estimates_l1 l ss os) (paInv l (q2.length + 10)) (fun o => o.length ≤ q2.length + 10 + 4000) (fun s => l.length - s.2.2.2.toNat) (by
      intro s hs
      obtain ⟨r, h1, _, h3⟩ := st s hs
      obtain ⟨i, hi, _⟩ := hs
      rcases h3 with ⟨s', rfl, h4, h5, h6⟩ | ⟨o, rfl, h4⟩
      · exact .inl ⟨s', h1, h4, by rw [h5, hi]; rw [hi] at h6; omega⟩
      · exact .inr ⟨o, h1, h4⟩) hi0
    have hy2 : whileE (impl_PackEstimates_l1 ss os l (l.length : Int)) (q2 ++ l0, 0, 0, 0) = some y := by
      rw [← hy]
      refine (while_congr (paInv l (q2.length + 10)) (fun s hs => ?_) (fun s s' hs e => ?_) hi0).symm
      · obtain ⟨r, h1, h2, _⟩ := st s hs
        rw [h1, h2]
      · obtain ⟨r, h1, h2, h3⟩ := st s hs
        rw [h1] at e
        rcases h3 with ⟨s2, rfl, h4, _⟩ | ⟨o, rfl, _⟩
        · cases e; exact h4
        · cases e
    obtain ⟨p, hp, z1, z2⟩ := close_is (b := y) (by omega)
    refine ⟨p, by omega, ?_, ?_⟩
    · unfold spec_l25Estimates
      simp only [a1, b1, c2, d2, e0, Option.bind_some]
      rw [appOk_of (by omega), ck_true, hy]
      simp only [Option.bind_some, z1]
    · simp only [Bool.not_true, cond_false, impl_count_impl_Estimate, a2, b2, c3, d3, Option.bind_some, f0 q2 (by omega), hy2, z2]

end Go.Proofs.Ytgbopjgnggdhkaa
