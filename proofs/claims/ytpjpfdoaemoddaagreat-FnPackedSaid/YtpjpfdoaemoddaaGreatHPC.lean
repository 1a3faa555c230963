/- Plain lemmas, several texts in one. No condition. -/
import Derived.Test.YtpjpfdoaemoddaaGreatHPB
import Derived.Test.YtpjpfdoaemoddaaGreatHPA
import Derived.Test.YtpjpfdoaemoddaaGreatPKT
/- What typed forms say: the packed form of estimates. No condition. -/
namespace Go.Proofs.YtpjpfdoaemoddaaGreat
open Go Go.RowKit
set_option linter.unusedSimpArgs false
set_option linter.unusedVariables false

/-! ### Names are put -/

theorem putNames_is {b : List UInt8} {ns : List Bs} (hn : ns.length ≤ 1000) (hs : ∀ x ∈ ns, x.length ≤ 100) (hb : b.length ≤ 1000000) :
    ∃ l, l.length ≤ b.length + 10 + 110 * ns.length ∧ spec_l25PutNames b ns = some l ∧ impl_appendNames b ns = some l := by
  obtain ⟨l0, n0, e0, f0⟩ := number_is (n := (ns.length : Int)) (by omega) (by omega)
  have step : ∀ s : List UInt8 × Int, (∃ i : Nat, s.2 = (i : Int) ∧ i ≤ ns.length ∧ s.1.length ≤ b.length + 10 + 110 * i) →
      ∃ r, spec_l25PutNames_l1 ns s = some r ∧ impl_appendNames_l1 ns (ns.length : Int) s = some r ∧ ((∃ s', r = .inl s' ∧ (∃ i : Nat, s'.2 = (i : Int) ∧ i ≤ ns.length ∧ s'.1.length ≤ b.length + 10 + 110 * i) ∧ s'.2 = s.2 + 1 ∧ s.2 < ns.length) ∨ ∃ o, r = .inr o ∧ o.length ≤ b.length + 10 + 110 * ns.length) := by
    rintro ⟨out, ii⟩ ⟨i, rfl, hi, ho⟩
    simp only at ho
    by_cases hlt : i < ns.length
    · have hx := hs _ (getD_mem hlt default)
      obtain ⟨l1, n1, e1, f1⟩ := number_is (n := ((ns.getD i default).length : Int)) (by omega) (by omega)
      refine ⟨.inl (out ++ l1 ++ ns.getD i default, ((i + 1 : Nat) : Int)), ?_, ?_, .inl ⟨_, rfl, ⟨i + 1, rfl, by omega, by simp only [List.length_append]; omega⟩, by simp, by simpa using hlt⟩⟩
      · simp only [spec_l25PutNames_l1, Int.ofNat_lt, hlt, decide_true, if_true, ixOk_nat, ck_true, Int.toNat_natCast, wrap_nat1 (show i < 9223372036854775807 by omega), e1, Option.bind_some]
        rw [appOk_of (by omega), appOk_of (by simp only [List.length_append]; omega), ck_true, ck_true]
      · simp only [impl_appendNames_l1, Int.ofNat_lt, hlt, decide_true, if_true, ixOk_nat, ck_true, Int.toNat_natCast, wrap_nat1 (show i < 9223372036854775807 by omega), f1 out (by omega), Option.bind_some]
        rw [appOk_of (by simp only [List.length_append]; omega), ck_true]
    · have hie : i = ns.length := by omega
      exact ⟨.inr out, by simp [spec_l25PutNames_l1, hlt], by simp [impl_appendNames_l1, hlt], .inr ⟨out, rfl, by rw [← hie]; exact ho⟩⟩
  have hi0 : ∃ i : Nat, ((b ++ l0, (0 : Int)) : List UInt8 × Int).2 = (i : Int) ∧ i ≤ ns.length ∧ ((b ++ l0, (0 : Int)) : List UInt8 × Int).1.length ≤ b.length + 10 + 110 * i := ⟨0, rfl, by omega, by simp only [List.length_append]; omega⟩
  obtain ⟨y, hy, hq⟩ := while_post (step := spec_l25PutNames_l1 ns) (fun s => ∃ i : Nat, s.2 = (i : Int) ∧ i ≤ ns.length ∧ s.1.length ≤ b.length + 10 + 110 * i) (fun o => o.length ≤ b.length + 10 + 110 * ns.length) (fun s => ns.length - s.2.toNat) (by
    intro s hs
    obtain ⟨r, h1, _, h3⟩ := step s hs
    obtain ⟨i, hi, _⟩ := hs
    rcases h3 with ⟨s', rfl, h4, h5, h6⟩ | ⟨o, rfl, h4⟩
    · exact .inl ⟨s', h1, h4, by rw [h5, hi]; rw [hi] at h6; omega⟩
    · exact .inr ⟨o, h1, h4⟩) hi0
  have hy2 : whileE (impl_appendNames_l1 ns (ns.length : Int)) (b ++ l0, 0) = some y := by
    rw [← hy]
    refine (while_congr (fun s => ∃ i : Nat, s.2 = (i : Int) ∧ i ≤ ns.length ∧ s.1.length ≤ b.length + 10 + 110 * i) (fun s hs => ?_) (fun s s' hs e => ?_) hi0).symm
    · obtain ⟨r, h1, h2, _⟩ := step s hs
      rw [h1, h2]
    · obtain ⟨r, h1, h2, h3⟩ := step s hs
      rw [h1] at e
      rcases h3 with ⟨s2, rfl, h4, _⟩ | ⟨o, rfl, _⟩
      · cases e; exact h4
      · cases e
  refine ⟨y, hq, ?_, ?_⟩
  · unfold spec_l25PutNames
    simp only [e0, Option.bind_some]
    rw [appOk_of (by omega), ck_true, hy]
    rfl
  · unfold impl_appendNames impl_count_string
    simp only [Option.bind_some, f0 b (by omega), hy2]

/-! ### Where a name stands -/

theorem place_is {ns : List Bs} (hl : ns.length ≤ 100000) {x : Bs} (hx : x ∈ ns) : ∃ k : Nat, k < ns.length ∧ spec_l25Find ns x = some (k : Int) ∧ impl_placeOf ns x = some (k : Int) ∧ ns.getD k default = x := by
  obtain ⟨k, hk⟩ : ∃ k, (List.range ns.length).find? (fun k => ns.getD k default == x) = some k := by
    have : ((List.range ns.length).find? (fun k => ns.getD k default == x)).isSome = true := by
      rw [find_any ns (fun y => y == x), List.any_eq_true]
      exact ⟨x, hx, by simp⟩
    exact Option.isSome_iff_exists.1 this
  have hk2 := List.find?_range_eq_some.1 hk
  have hkl : k < ns.length := by simpa using hk2.2.1
  refine ⟨k, hkl, ?_, ?_, by simpa using hk2.1⟩
  · unfold spec_l25Find
    rw [while_find (step := spec_l25Find_l1 ns x) (fun k => ns.getD k default == x) (fun k => (k : Int)) ns.length
      (fun k hk => by
        simp only [spec_l25Find_l1, ixOk_nat, hk, decide_true, ck_true, Int.ofNat_lt, if_true, Int.toNat_natCast, wrap_nat1 (show k < 9223372036854775807 by omega)]
        cases (ns.getD k default == x) <;> rfl)
      (by simp [spec_l25Find_l1]), hk]
    rfl
  · unfold impl_placeOf impl_indexOf_string__impl_placeOf_c1 slices_IndexFunc_string_string__impl_placeOf_c1
    rw [while_find (step := slices_IndexFunc_string_string__impl_placeOf_c1_l1 ns x (ns.length : Int)) (fun k => ns.getD k default == x) (fun k => (k : Int)) ns.length
      (fun k hk => by
        simp only [slices_IndexFunc_string_string__impl_placeOf_c1_l1, impl_placeOf_c1, ixOk_nat, hk, decide_true, ck_true, Int.ofNat_lt, if_true, Int.toNat_natCast, wrap_nat1 (show k < 9223372036854775807 by omega), Option.bind_some]
        cases (ns.getD k default == x) <;> rfl)
      (by simp [slices_IndexFunc_string_string__impl_placeOf_c1_l1]), hk]
    simp

/-! ### Valid estimates -/

theorem beforeE_time {a b : Estimate} (h : beforeE a b = true) : a.Time ≤ b.Time := by
  unfold beforeE at h
  split at h
  · omega
  · have := of_decide_eq_true h; omega

theorem goodE_at {l : List Estimate} (h : goodE l = true) {i : Nat} (hi : i < l.length) : oneE (l.getD i default) = true ∧ (0 < i → beforeE (l.getD (i - 1) default) (l.getD i default) = true) := by
  unfold goodE at h
  have := all_range' h hi
  simp only [okE, Bool.and_eq_true, Bool.not_eq_true', Bool.and_eq_false_iff, decide_eq_false_iff_not, Bool.not_eq_false'] at this
  refine ⟨this.1, fun h0 => ?_⟩
  rcases this.2 with c | c
  · exact absurd h0 c
  · exact c

theorem oneE_at {e : Estimate} (h : oneE e = true) : 0 ≤ e.Time ∧ e.Time ≤ 10000000 ∧ -2000 ≤ e.Mag ∧ e.Mag ≤ 20000 ∧ e.Star.length ≤ 12 ∧ e.Observer.length ≤ 12 := by
  unfold oneE nameB at h
  simp only [Bool.and_eq_true, decide_eq_true_eq] at h
  exact ⟨h.1.1.1.1, h.1.1.1.2, h.2.1, h.2.2, h.1.1.2.2.1, h.1.2.2.1⟩

/-! ### The packed form -/

def paInv (l : List Estimate) (B : Nat) (s : List UInt8 × Int × Int × Int) : Prop :=
  ∃ i : Nat, s.2.2.2 = (i : Int) ∧ i ≤ l.length ∧ s.1.length ≤ B + 40 * i ∧ s.2.1 = (if i = 0 then 0 else (l.getD (i - 1) default).Time) ∧ s.2.2.1 = (if i = 0 then 0 else (l.getD (i - 1) default).Mag)

theorem four_l2 {ss os : List Bs} {e : Estimate} {t30 : List Estimate} {t31 t32 : Int} {a1 a2 a3 a4 : Int} {p1 p2 p3 p4 b : List UInt8} (hb : b.length ≤ 1000000) (n1 : p1.length ≤ 10) (n2 : p2.length ≤ 10) (n3 : p3.length ≤ 10)
    (f1 : ∀ b : List UInt8, b.length ≤ 1099511627776 → impl_appendNumber b a1 = some (b ++ p1)) (f2 : ∀ b : List UInt8, b.length ≤ 1099511627776 → impl_appendNumber b a2 = some (b ++ p2))
    (f3 : ∀ b : List UInt8, b.length ≤ 1099511627776 → impl_appendNumber b a3 = some (b ++ p3)) (f4 : ∀ b : List UInt8, b.length ≤ 1099511627776 → impl_appendNumber b a4 = some (b ++ p4)) :
    whileE (impl_PackEstimates_l2 ss os e t30 t31 t32 [a1, a2, a3, a4] (([a1, a2, a3, a4] : List Int).length : Int)) (b, 0) = some (b ++ p1 ++ p2 ++ p3 ++ p4) ∧
    whileE (impl_PackEstimates_l3 ss os e t30 t31 t32 [a1, a2, a3, a4] (([a1, a2, a3, a4] : List Int).length : Int)) (b, 0) = some (b ++ p1 ++ p2 ++ p3 ++ p4) := by
  have w : ∀ i : Nat, i < 4 → IntKind.i64.wrap ((i : Int) + 1) = ((i + 1 : Nat) : Int) := fun i hi => wrap_nat1 (by omega)
  have w0 := w 0 (by omega); have w1 := w 1 (by omega); have w2 := w 2 (by omega); have w3 := w 3 (by omega)
  have g1 := f1 b (by omega)
  have g2 := f2 (b ++ p1) (by simp only [List.length_append]; omega)
  have g3 := f3 (b ++ p1 ++ p2) (by simp only [List.length_append]; omega)
  have g4 := f4 (b ++ p1 ++ p2 ++ p3) (by simp only [List.length_append]; omega)
  constructor
  · rw [whileE_next (s' := (b ++ p1, ((1 : Nat) : Int))), whileE_next (s' := (b ++ p1 ++ p2, ((2 : Nat) : Int))), whileE_next (s' := (b ++ p1 ++ p2 ++ p3, ((3 : Nat) : Int))), whileE_next (s' := (b ++ p1 ++ p2 ++ p3 ++ p4, ((4 : Nat) : Int)))]
    · exact whileE_done (by simp [impl_PackEstimates_l2])
    · simp [impl_PackEstimates_l2, ixOk, ck_true, ← List.append_assoc, g4]; rfl
    · simp [impl_PackEstimates_l2, ixOk, ck_true, ← List.append_assoc, g3]; rfl
    · simp [impl_PackEstimates_l2, ixOk, ck_true, ← List.append_assoc, g2]; rfl
    · simp [impl_PackEstimates_l2, ixOk, ck_true, ← List.append_assoc, g1]; rfl
  · rw [whileE_next (s' := (b ++ p1, ((1 : Nat) : Int))), whileE_next (s' := (b ++ p1 ++ p2, ((2 : Nat) : Int))), whileE_next (s' := (b ++ p1 ++ p2 ++ p3, ((3 : Nat) : Int))), whileE_next (s' := (b ++ p1 ++ p2 ++ p3 ++ p4, ((4 : Nat) : Int)))]
    · exact whileE_done (by simp [impl_PackEstimates_l3])
    · simp [impl_PackEstimates_l3, ixOk, ck_true, ← List.append_assoc, g4]; rfl
    · simp [impl_PackEstimates_l3, ixOk, ck_true, ← List.append_assoc, g3]; rfl
    · simp [impl_PackEstimates_l3, ixOk, ck_true, ← List.append_assoc, g2]; rfl
    · simp [impl_PackEstimates_l3, ixOk, ck_true, ← List.append_assoc, g1]; rfl

theorem pa_step {l : List Estimate} {B : Nat} (hB : B ≤ 100000) (hg : goodE l = true) (hl : l.length ≤ 100) {ss os : List Bs} (h1 : ss.length ≤ 10000) (h2 : os.length ≤ 10000) (m1 : ∀ x ∈ starL l, x ∈ ss) (m2 : ∀ x ∈ obsL l, x ∈ os)
    {s : List UInt8 × Int × Int × Int} (h : paInv l B s) :
    (∃ r, spec_l25Estimates_l1 l ss os s = some r ∧ impl_PackEstimates_l1 ss os l (l.length : Int) s = some r ∧ ((∃ s', r = .inl s' ∧ paInv l B s' ∧ s'.2.2.2 = s.2.2.2 + 1 ∧ s.2.2.2 < l.length) ∨ ∃ o, r = .inr o ∧ o.length ≤ B + 4000)) := by
  obtain ⟨out, time, mag, ii⟩ := s
  obtain ⟨i, rfl, hi, ho, ht, hm⟩ := h
  simp only at ho ht hm
  by_cases hlt : i < l.length
  · obtain ⟨q1, q2⟩ := goodE_at hg hlt
    obtain ⟨g1, g2, g3, g4, _, _⟩ := oneE_at q1
    have time0 : 0 ≤ (l.getD i default).Time - time ∧ (l.getD i default).Time - time ≤ 10000000 := by
      rw [ht]
      split
      · omega
      · obtain ⟨r1, r2, _⟩ := oneE_at (goodE_at hg (show i - 1 < l.length by omega)).1
        have := beforeE_time (q2 (by omega)); omega
    have mag0 : -100000 ≤ (l.getD i default).Mag - mag ∧ (l.getD i default).Mag - mag ≤ 100000 := by
      rw [hm]
      split
      · omega
      · obtain ⟨_, _, r3, r4, _⟩ := oneE_at (goodE_at hg (show i - 1 < l.length by omega)).1
        omega
    obtain ⟨k1, kl1, ka1, kb1, _⟩ := place_is (by omega) (m1 _ (List.mem_map_of_mem (getD_mem hlt default)))
    obtain ⟨k2, kl2, ka2, kb2, _⟩ := place_is (by omega) (m2 _ (List.mem_map_of_mem (getD_mem hlt default)))
    obtain ⟨p1, n1, e1, f1⟩ := number_is time0.1 (by omega)
    obtain ⟨p2, n2, e2, f2⟩ := number_is (n := (k1 : Int)) (by omega) (by omega)
    obtain ⟨d1, d2⟩ := fold_is (n := (l.getD i default).Mag - mag) (by omega) (by omega)
    obtain ⟨x1, x2⟩ := foldN_in mag0.1 mag0.2
    obtain ⟨p4, n4, e4, f4⟩ := number_is x1 (by omega)
    have w1 : IntKind.i64.wrap ((l.getD i default).Time - time) = (l.getD i default).Time - time := wrap_i64 (by omega) (by omega)
    have w2 : IntKind.i64.wrap ((l.getD i default).Mag - mag) = (l.getD i default).Mag - mag := wrap_i64 (by omega) (by omega)
    have w3 : IntKind.i64.wrap (2 * (k2 : Int)) = 2 * (k2 : Int) := wrap_i64 (by omega) (by omega)
    have w4 : IntKind.i64.wrap (2 * (k2 : Int) + 1) = 2 * (k2 : Int) + 1 := wrap_i64 (by omega) (by omega)
    cases hf : (l.getD i default).Fainter
    · obtain ⟨p3, n3, e3, f3⟩ := number_is (n := 2 * (k2 : Int)) (by omega) (by omega)
      refine ⟨.inl (out ++ p1 ++ p2 ++ p3 ++ p4, (l.getD i default).Time, (l.getD i default).Mag, ((i + 1 : Nat) : Int)), ?_, ?_, .inl ⟨_, rfl, ⟨i + 1, rfl, by omega, by simp only [List.length_append]; omega, by simp, by simp⟩, by simp, by simpa using hlt⟩⟩
      · simp only [spec_l25Estimates_l1, Int.ofNat_lt, hlt, decide_true, if_true, ixOk_nat, ck_true, Int.toNat_natCast, wrap_nat1 (show i < 9223372036854775807 by omega), w1, w2, w3, e1, e2, e3, e4, d1, ka1, ka2, hf, Option.bind_some, Bool.false_eq_true, if_false]
        rw [appOk_of (by omega), appOk_of (by simp only [List.length_append]; omega), appOk_of (by simp only [List.length_append]; omega), appOk_of (by simp only [List.length_append]; omega), ck_true, ck_true, ck_true, ck_true]
      · simp only [impl_PackEstimates_l1, Int.ofNat_lt, hlt, decide_true, if_true, ixOk_nat, ck_true, Int.toNat_natCast, wrap_nat1 (show i < 9223372036854775807 by omega), w1, w2, w3, d2, kb1, kb2, hf, Option.bind_some, Bool.false_eq_true, if_false]
        rw [(four_l2 (by omega) n1 n2 n3 f1 f2 f3 f4).2]
        rfl
    · obtain ⟨p3, n3, e3, f3⟩ := number_is (n := 2 * (k2 : Int) + 1) (by omega) (by omega)
      refine ⟨.inl (out ++ p1 ++ p2 ++ p3 ++ p4, (l.getD i default).Time, (l.getD i default).Mag, ((i + 1 : Nat) : Int)), ?_, ?_, .inl ⟨_, rfl, ⟨i + 1, rfl, by omega, by simp only [List.length_append]; omega, by simp, by simp⟩, by simp, by simpa using hlt⟩⟩
      · simp only [spec_l25Estimates_l1, Int.ofNat_lt, hlt, decide_true, if_true, ixOk_nat, ck_true, Int.toNat_natCast, wrap_nat1 (show i < 9223372036854775807 by omega), w1, w2, w3, w4, e1, e2, e3, e4, d1, ka1, ka2, hf, Option.bind_some]
        rw [appOk_of (by omega), appOk_of (by simp only [List.length_append]; omega), appOk_of (by simp only [List.length_append]; omega), appOk_of (by simp only [List.length_append]; omega), ck_true, ck_true, ck_true, ck_true]
      · simp only [impl_PackEstimates_l1, Int.ofNat_lt, hlt, decide_true, if_true, ixOk_nat, ck_true, Int.toNat_natCast, wrap_nat1 (show i < 9223372036854775807 by omega), w1, w2, w3, w4, d2, kb1, kb2, hf, Option.bind_some]
        rw [(four_l2 (by omega) n1 n2 n3 f1 f2 f3 f4).1]
        rfl
  · exact ⟨.inr out, by simp [spec_l25Estimates_l1, hlt], by simp [impl_PackEstimates_l1, hlt], .inr ⟨out, rfl, by omega⟩⟩

theorem Pack_is {l : List Estimate} (hl : l.length ≤ 1048576) : if (goodE l && decide (l.length ≤ 100)) = true then ∃ p, p.length ≤ 30000 ∧ spec_l25Estimates l = some p ∧ impl_PackEstimates l = some (p, 0) else impl_PackEstimates l = some ([], 1) := by
  unfold impl_PackEstimates
  rw [ValidEstimates_is (by omega)]
  simp only [Option.bind_some, ite_b]
  cases hg : (goodE l && decide (l.length ≤ 100))
  · rfl
  · simp only [Bool.and_eq_true, decide_eq_true_eq] at hg
    obtain ⟨hg, hc⟩ := hg
    obtain ⟨ss, a1, a2, a3, a4, a5⟩ := star_names (l := l) (by omega)
    obtain ⟨os, b1, b2, b3, b4, b5⟩ := obs_names (l := l) (by omega)
    have ls : ∀ x ∈ ss, x.length ≤ 100 := fun x hx => by
      obtain ⟨e, he, rfl⟩ := List.mem_map.1 ((a5 x).1 hx)
      obtain ⟨i, hi, rfl⟩ := List.getElem_of_mem he
      have := (oneE_at (goodE_at hg hi).1).2.2.2.2.1
      rw [getD_lt hi] at this; omega
    have lo : ∀ x ∈ os, x.length ≤ 100 := fun x hx => by
      obtain ⟨e, he, rfl⟩ := List.mem_map.1 ((b5 x).1 hx)
      obtain ⟨i, hi, rfl⟩ := List.getElem_of_mem he
      have := (oneE_at (goodE_at hg hi).1).2.2.2.2.2
      rw [getD_lt hi] at this; omega
    obtain ⟨q1, c1, c2, c3⟩ := putNames_is (b := [69]) (ns := ss) (by omega) ls (by simp)
    simp only [List.length_singleton] at c1
    obtain ⟨q2, d1, d2, d3⟩ := putNames_is (b := q1) (ns := os) (by omega) lo (by omega)
    obtain ⟨l0, n0, e0, f0⟩ := number_is (n := (l.length : Int)) (by omega) (by omega)
    have hB : q2.length + 10 ≤ 100000 := by omega
    have hi0 : paInv l (q2.length + 10) (q2 ++ l0, 0, 0, 0) := ⟨0, rfl, by omega, by simp only [List.length_append]; omega, rfl, rfl⟩
    have st := fun s hs => pa_step (s := s) hB hg hc (ss := ss) (os := os) (by omega) (by omega) (fun x hx => (a5 x).2 hx) (fun x hx => (b5 x).2 hx) hs
    obtain ⟨y, hy, hq⟩ := while_post (step := spec_l25Estimates_l1 l ss os) (paInv l (q2.length + 10)) (fun o => o.length ≤ q2.length + 10 + 4000) (fun s => l.length - s.2.2.2.toNat) (by
      intro s hs
      obtain ⟨r, h1, _, h3⟩ := st s hs
      obtain ⟨i, hi, _⟩ := hs
      rcases h3 with ⟨s', rfl, h4, h5, h6⟩ | ⟨o, rfl, h4⟩
      · exact .inl ⟨s', h1, h4, by rw [h5, hi]; rw [hi] at h6; omega⟩
      · exact .inr ⟨o, h1, h4⟩) hi0
    have hy2 : whileE (impl_PackEstimates_l1 ss os l (l.length : Int)) (q2 ++ l0, 0, 0, 0) = some y := by
      rw [← hy]
      refine (while_congr (paInv l (q2.length + 10)) (fun s hs => ?_) (fun s s' hs e => ?_) hi0).symm
      · obtain ⟨r, h1, h2, _⟩ := st s hs
        rw [h1, h2]
      · obtain ⟨r, h1, h2, h3⟩ := st s hs
        rw [h1] at e
        rcases h3 with ⟨s2, rfl, h4, _⟩ | ⟨o, rfl, _⟩
        · cases e; exact h4
        · cases e
    obtain ⟨p, hp, z1, z2⟩ := close_is (b := y) (by omega)
    refine ⟨p, by omega, ?_, ?_⟩
    · unfold spec_l25Estimates
      simp only [a1, b1, c2, d2, e0, Option.bind_some]
      rw [appOk_of (by omega), ck_true, hy]
      simp only [Option.bind_some, z1]
    · simp only [Bool.not_true, cond_false, impl_count_impl_Estimate, a2, b2, c3, d3, Option.bind_some, f0 q2 (by omega), hy2, z2]

end Go.Proofs.YtpjpfdoaemoddaaGreat

/- What typed forms say: valid light curves. No condition. -/
namespace Go.Proofs.YtpjpfdoaemoddaaGreat
open Go Go.RowKit
set_option linter.unusedSimpArgs false
set_option linter.unusedVariables false

def okP (c : List Point) (i : Nat) : Bool :=
  ((decide (0 ≤ (c.getD i default).Time) && decide ((c.getD i default).Time ≤ 10000000)) && (decide (-2000 ≤ (c.getD i default).Mag) && decide ((c.getD i default).Mag ≤ 20000))) &&
  !(decide (0 < i) && decide ((c.getD i default).Time ≤ (c.getD (i - 1) default).Time))
def goodP (c : List Point) : Bool := (List.range c.length).all (okP c)

theorem l06Time_is (n : Int) : spec_l06Time n = some (decide (0 ≤ n) && decide (n ≤ 10000000)) := id rfl
theorem l02Mag_is (n : Int) : spec_l02Mag n = some (decide (-2000 ≤ n) && decide (n ≤ 20000)) := id rfl
theorem l08_step {c : List Point} (hl : c.length ≤ 1099511627776) {i : Nat} (hi : i < c.length) : spec_l08Ok_l1 c (i : Int) = some (if okP c i = true then .inl ((i + 1 : Nat) : Int) else .inr (.inr false)) := by
  simp only [spec_l08Ok_l1, ite_b, ixOk_nat, hi, decide_true, ck_true, Int.ofNat_lt, cond_true, Int.toNat_natCast, wrap_nat1 (show i < 9223372036854775807 by omega), l06Time_is, l02Mag_is, Option.bind_some, Option.isSome_some, Option.getD_some, Bool.or_true]
  unfold okP
  generalize (decide (0 ≤ (c.getD i default).Time) && decide ((c.getD i default).Time ≤ 10000000)) = A
  generalize (decide (-2000 ≤ (c.getD i default).Mag) && decide ((c.getD i default).Mag ≤ 20000)) = B
  by_cases h0 : 0 < i
  · have e0 : decide ((0 : Int) < (i : Int)) = true := by simpa using h0
    have e1 : decide (0 < i) = true := by simpa using h0
    have w1 : IntKind.i64.wrap ((i : Int) - 1) = ((i - 1 : Nat) : Int) := by rw [wrap_i64 (by omega) (by omega)]; omega
    have ok1 : ixOk ((i - 1 : Nat) : Int) c.length = true := by rw [ixOk_nat]; simp; omega
    simp only [e0, e1, w1, ok1, Bool.or_true, ck_true, Bool.true_and, Int.toNat_natCast]
    generalize decide ((c.getD i default).Time ≤ (c.getD (i - 1) default).Time) = D
    cases A <;> cases B <;> cases D <;> rfl
  · have e0 : decide ((0 : Int) < (i : Int)) = false := by simpa using h0
    have e1 : decide (0 < i) = false := by simpa using h0
    simp only [e0, e1, Bool.false_and, Bool.and_false, Bool.not_false, Bool.true_or, ck_true]
    cases A <;> cases B <;> rfl

theorem l08Ok_is {c : List Point} (hl : c.length ≤ 1099511627776) : spec_l08Ok c = some (goodP c && decide (c.length ≤ 100)) := by
  unfold spec_l08Ok
  rw [while_all (step := spec_l08Ok_l1 c) (okP c) c.length (goodP c) (yes := .inl ()) (no := .inr false) (by unfold goodP; simp) (fun i hi => l08_step hl hi) (by simp [spec_l08Ok_l1])]
  have e : decide ((c.length : Int) ≤ 100) = decide (c.length ≤ 100) := by rw [Bool.eq_iff_iff]; simp; omega
  simp only [Option.bind_some, ite_b]
  cases goodP c <;> simp [e]

theorem goodP_at {c : List Point} (h : goodP c = true) {i : Nat} (hi : i < c.length) : 0 ≤ (c.getD i default).Time ∧ (c.getD i default).Time ≤ 10000000 ∧ -2000 ≤ (c.getD i default).Mag ∧ (c.getD i default).Mag ≤ 20000 ∧ (0 < i → (c.getD (i - 1) default).Time < (c.getD i default).Time) := by
  unfold goodP at h
  have := all_range' h hi
  simp only [okP, Bool.and_eq_true, decide_eq_true_eq, Bool.not_eq_true', Bool.and_eq_false_iff, decide_eq_false_iff_not] at this
  refine ⟨this.1.1.1, this.1.1.2, this.1.2.1, this.1.2.2, fun h0 => ?_⟩
  rcases this.2 with c | c
  · exact absurd h0 c
  · omega

end Go.Proofs.YtpjpfdoaemoddaaGreat

/- What typed forms say: light curves and their packed forms. No condition. -/
namespace Go.Proofs.YtpjpfdoaemoddaaGreat
open Go Go.RowKit
set_option linter.unusedSimpArgs false
set_option linter.unusedVariables false

theorem ValidTime_is (n : Int) : impl_ValidTime n = some (decide (0 ≤ n) && decide (n ≤ 10000000)) := id rfl
theorem ValidMag_is (n : Int) : impl_ValidMag n = some (decide (-2000 ≤ n) && decide (n ≤ 20000)) := id rfl

theorem Valid_step (c : List Point) : impl_ValidCurve_l1 c c (c.length : Int) = spec_l08Ok_l1 c := by
  funext i
  simp only [impl_ValidCurve_l1, spec_l08Ok_l1, ValidTime_is, ValidMag_is, l06Time_is, l02Mag_is]

theorem ValidCurve_is {c : List Point} (hl : c.length ≤ 1099511627776) : impl_ValidCurve c = some (goodP c && decide (c.length ≤ 100)) := by
  unfold impl_ValidCurve
  by_cases h : 100 < (c.length : Int)
  · have e : decide (c.length ≤ 100) = false := by simp; omega
    simp [h, e]
  · have e : decide (c.length ≤ 100) = true := by simp; omega
    simp only [h, decide_false, Bool.false_eq_true, if_false, Valid_step]
    rw [while_all (step := spec_l08Ok_l1 c) (okP c) c.length (goodP c) (yes := .inl ()) (no := .inr false) (by unfold goodP; simp) (fun i hi => l08_step hl hi) (by simp [spec_l08Ok_l1])]
    simp only [Option.bind_some, ite_b, e]
    cases goodP c <;> rfl

/-! ### The packed form of a curve -/

def cuInv (c : List Point) (s : List UInt8 × Int × Int × Int) : Prop :=
  ∃ i : Nat, s.2.2.2 = (i : Int) ∧ i ≤ c.length ∧ s.1.length ≤ 11 + 20 * i ∧ s.2.1 = (if i = 0 then 0 else (c.getD (i - 1) default).Time) ∧ s.2.2.1 = (if i = 0 then 0 else (c.getD (i - 1) default).Mag)

theorem cu_step {c : List Point} (hg : goodP c = true) (hl : c.length ≤ 100) {s : List UInt8 × Int × Int × Int} (h : cuInv c s) :
    (∃ r, spec_l25Curve_l1 c s = some r ∧ impl_PackCurve_l1 c (c.length : Int) s = some r ∧ ((∃ s', r = .inl s' ∧ cuInv c s' ∧ s'.2.2.2 = s.2.2.2 + 1 ∧ s.2.2.2 < c.length) ∨ ∃ o, r = .inr o ∧ o.length ≤ 2011)) := by
  obtain ⟨out, time, mag, ii⟩ := s
  obtain ⟨i, rfl, hi, ho, ht, hm⟩ := h
  simp only at ho ht hm
  by_cases hlt : i < c.length
  · obtain ⟨g1, g2, g3, g4, g5⟩ := goodP_at hg hlt
    have time0 : 0 ≤ (c.getD i default).Time - time ∧ (c.getD i default).Time - time ≤ 10000000 := by
      rw [ht]
      split
      · omega
      · obtain ⟨q1, q2, _⟩ := goodP_at hg (show i - 1 < c.length by omega)
        have := g5 (by omega); omega
    have mag0 : -100000 ≤ (c.getD i default).Mag - mag ∧ (c.getD i default).Mag - mag ≤ 100000 := by
      rw [hm]
      split
      · omega
      · obtain ⟨q1, q2, q3, q4, _⟩ := goodP_at hg (show i - 1 < c.length by omega)
        omega
    obtain ⟨l1, n1, e1, f1⟩ := number_is time0.1 (by omega)
    obtain ⟨k1, k2⟩ := foldN_in mag0.1 mag0.2
    obtain ⟨l2, n2, e2, f2⟩ := number_is k1 (by omega)
    obtain ⟨d1, d2⟩ := fold_is (n := (c.getD i default).Mag - mag) (by omega) (by omega)
    have w1 : IntKind.i64.wrap ((c.getD i default).Time - time) = (c.getD i default).Time - time := wrap_i64 (by omega) (by omega)
    have w2 : IntKind.i64.wrap ((c.getD i default).Mag - mag) = (c.getD i default).Mag - mag := wrap_i64 (by omega) (by omega)
    refine ⟨.inl (out ++ l1 ++ l2, (c.getD i default).Time, (c.getD i default).Mag, ((i + 1 : Nat) : Int)), ?_, ?_, .inl ⟨_, rfl, ⟨i + 1, rfl, by omega, by simp; omega, by simp, by simp⟩, by simp, by simpa using hlt⟩⟩
    · simp only [spec_l25Curve_l1, Int.ofNat_lt, hlt, decide_true, if_true, ixOk_nat, ck_true, Int.toNat_natCast, wrap_nat1 (show i < 9223372036854775807 by omega), w1, w2, e1, e2, d1, Option.bind_some]
      rw [appOk_of (by omega), appOk_of (by simp; omega), ck_true, ck_true]
    · simp only [impl_PackCurve_l1, Int.ofNat_lt, hlt, decide_true, if_true, ixOk_nat, ck_true, Int.toNat_natCast, wrap_nat1 (show i < 9223372036854775807 by omega), w1, w2, f1 out (by omega), f2 (out ++ l1) (by simp; omega), d2, Option.bind_some]
  · exact ⟨.inr out, by simp [spec_l25Curve_l1, hlt], by simp [impl_PackCurve_l1, hlt], .inr ⟨out, rfl, by omega⟩⟩

theorem Curve_is {c : List Point} (hl : c.length ≤ 1048576) : if (goodP c && decide (c.length ≤ 100)) = true then ∃ l, l.length ≤ 3000 ∧ spec_l25Curve c = some l ∧ impl_PackCurve c = some (l, 0) else impl_PackCurve c = some ([], 1) := by
  unfold impl_PackCurve
  rw [ValidCurve_is (by omega)]
  simp only [Option.bind_some, ite_b]
  cases hg : (goodP c && decide (c.length ≤ 100))
  · rfl
  · simp only [Bool.and_eq_true, decide_eq_true_eq] at hg
    obtain ⟨hg, hc⟩ := hg
    obtain ⟨l0, n0, e0, f0⟩ := number_is (n := (c.length : Int)) (by omega) (by omega)
    have hi0 : cuInv c ([67] ++ l0, 0, 0, 0) := ⟨0, rfl, by omega, by simp; omega, rfl, rfl⟩
    obtain ⟨y, hy, hq⟩ := while_post (step := spec_l25Curve_l1 c) (cuInv c) (fun o => o.length ≤ 2011) (fun s => c.length - s.2.2.2.toNat) (by
      intro s hs
      obtain ⟨r, h1, _, h3⟩ := cu_step hg hc hs
      obtain ⟨i, hi, _⟩ := hs
      rcases h3 with ⟨s', rfl, h4, h5, h6⟩ | ⟨o, rfl, h4⟩
      · exact .inl ⟨s', h1, h4, by rw [h5, hi]; rw [hi] at h6; omega⟩
      · exact .inr ⟨o, h1, h4⟩) hi0
    have hy2 : whileE (impl_PackCurve_l1 c (c.length : Int)) ([67] ++ l0, 0, 0, 0) = some y := by
      rw [← hy]
      refine (while_congr (cuInv c) (fun s hs => ?_) (fun s s' hs e => ?_) hi0).symm
      · obtain ⟨r, h1, h2, _⟩ := cu_step hg hc hs
        rw [h1, h2]
      · obtain ⟨r, h1, h2, h3⟩ := cu_step hg hc hs
        rw [h1] at e
        rcases h3 with ⟨s2, rfl, h4, _⟩ | ⟨o, rfl, _⟩
        · cases e; exact h4
        · cases e
    obtain ⟨l, hl2, c1, c2⟩ := close_is (b := y) (by omega)
    refine ⟨l, by omega, ?_, ?_⟩
    · unfold spec_l25Curve
      simp only [e0, Option.bind_some]
      rw [appOk_of (by simp; omega), ck_true, hy]
      simp only [Option.bind_some, c1]
    · simp only [Bool.not_true, cond_false, impl_count_impl_Point, Option.bind_some, f0 [67] (by simp), hy2, c2]

end Go.Proofs.YtpjpfdoaemoddaaGreat

/- What typed forms say: numbers read from the front. No condition. -/
namespace Go.Proofs.YtpjpfdoaemoddaaGreat
open Go Go.RowKit
set_option linter.unusedSimpArgs false
set_option linter.unusedVariables false

theorem cut_drop {b : List UInt8} {a : Int} : cut b a (b.length : Int) = b.drop a.toNat := by
  simp [cut]

/-! ### Folded numbers -/

theorem unfold_same (n : Int) : impl_unfold n = spec_l25Unfold n := id rfl

theorem unfold_is {n : Int} (h0 : 0 ≤ n) (h1 : n ≤ 100000) : ∃ m : Int, spec_l25Unfold n = some m ∧ -50001 ≤ m ∧ m ≤ 50000 ∧ (44000 < n → m < -22000 ∨ 22000 < m) := by
  unfold spec_l25Unfold
  rw [nz_of (show (2 : Int) ≠ 0 by decide), ck_true, Int.tmod_eq_emod_of_nonneg h0]
  have w1 : IntKind.i64.wrap (n + 1) = n + 1 := wrap_i64 (by omega) (by omega)
  have w2 : IntKind.i64.wrap (0 - (n + 1)) = -(n + 1) := by rw [wrap_i64 (by omega) (by omega)]; omega
  have t : (-(n + 1)).tdiv 2 = -((n + 1) / 2) := by rw [Int.neg_tdiv, Int.tdiv_eq_ediv_of_nonneg (by omega)]
  have t2 : n.tdiv 2 = n / 2 := Int.tdiv_eq_ediv_of_nonneg h0
  by_cases h : n % 2 = 1
  · have e : (n % 2 == 1) = true := by simpa using h
    rw [if_pos e, w1, w2, t, wrap_i64 (by omega) (by omega)]
    exact ⟨_, rfl, by omega, by omega, by omega⟩
  · have e : ¬ (n % 2 == 1) = true := by simpa using h
    rw [if_neg e, t2, wrap_i64 (by omega) (by omega)]
    exact ⟨_, rfl, by omega, by omega, by omega⟩

theorem unfold_some (n : Int) : ∃ m, spec_l25Unfold n = some m := by
  unfold spec_l25Unfold
  rw [nz_of (show (2 : Int) ≠ 0 by decide), ck_true]
  split <;> exact ⟨_, rfl⟩

/-! ### Numbers read from the front -/

structure Rel (body : List UInt8) (r : L25R) (u : Unpacker) : Prop where
  b : r.b_ = body
  lo : 0 ≤ r.at_
  hi : r.at_ ≤ body.length
  ok : r.ok_ = true
  rest : u.rest_ = body.drop r.at_.toNat
  good : u.bad_ = false

theorem num_is {body : List UInt8} {r : L25R} {u : Unpacker} (hb : body.length ≤ 1048576) (h : Rel body r u) : ∃ (n : Nat) (ok : Bool) (r' : L25R) (u' : Unpacker), Rel body r' u' ∧
    ∀ most : Int, spec_l25R_number r most = some (if (!ok || decide (most < (n : Int))) = true then (0, ⟨body, r.at_, false⟩) else ((n : Int), r')) ∧
      impl_unpacker_number u most = some (if (!ok || decide (most < (n : Int))) = true then (0, ⟨u.rest_, true⟩) else ((n : Int), u')) := by
  obtain ⟨rb, ra, ro⟩ := r
  obtain ⟨ur, ub⟩ := u
  obtain ⟨h1, h2, h3, h4, h5, h6⟩ := h
  simp only at h1 h2 h3 h4 h5 h6
  subst h1 h4 h5 h6
  obtain ⟨n, k, ok, e1, e2, hn, hk, hk9⟩ := read_is (rb.drop ra.toNat)
  rw [List.length_drop] at hk
  refine ⟨n, ok, ⟨rb, ra + k, true⟩, ⟨rb.drop (ra + (k : Int)).toNat, false⟩, ⟨rfl, by show 0 ≤ ra + (k : Int); omega, by show ra + (k : Int) ≤ rb.length; omega, rfl, rfl, rfl⟩, fun most => ⟨?_, ?_⟩⟩
  · unfold spec_l25R_number
    simp only
    rw [cutOk_of h2 h3 (by omega), ck_true, cut_drop, e1]
    simp only [Option.bind_some]
    rw [wrap_i64 (n := ra + (k : Int)) (by omega) (by omega)]
    split <;> rfl
  · unfold impl_unpacker_number
    simp only
    rw [e2]
    simp only [Option.bind_some, Bool.false_or]
    split
    · rfl
    · rw [cutOk_of (by omega) (by rw [List.length_drop]; omega) (by omega), ck_true, cut_drop, List.drop_drop]
      have : ra.toNat + (k : Int).toNat = (ra + (k : Int)).toNat := by omega
      rw [this]

theorem num_total {r : L25R} (hb : r.b_.length ≤ 1048576) (h0 : 0 ≤ r.at_) (h1 : r.at_ ≤ r.b_.length) (most : Int) : ∃ n r', spec_l25R_number r most = some (n, r') ∧ r'.b_ = r.b_ ∧ 0 ≤ r'.at_ ∧ r'.at_ ≤ r.b_.length ∧ (r.ok_ = false → r'.ok_ = false) := by
  obtain ⟨rb, ra, ro⟩ := r
  simp only at hb h0 h1
  obtain ⟨n, k, ok, e1, e2, hn, hk, hk9⟩ := read_is (rb.drop ra.toNat)
  rw [List.length_drop] at hk
  unfold spec_l25R_number
  simp only
  rw [cutOk_of h0 h1 (by omega), ck_true, cut_drop, e1]
  simp only [Option.bind_some]
  split
  · exact ⟨_, _, rfl, rfl, h0, h1, fun _ => rfl⟩
  · rw [wrap_i64 (n := ra + (k : Int)) (by omega) (by omega)]
    exact ⟨_, _, rfl, rfl, by show 0 ≤ ra + (k : Int); omega, by show ra + (k : Int) ≤ rb.length; omega, fun c => c⟩

theorem bad_num {u : Unpacker} (h : u.bad_ = true) (most : Int) : impl_unpacker_number u most = some (0, ⟨u.rest_, true⟩) := by
  unfold impl_unpacker_number
  obtain ⟨n, k, ok, e1, e2, _⟩ := read_is u.rest_
  rw [e2]
  simp [h]

end Go.Proofs.YtpjpfdoaemoddaaGreat

/- What typed forms say: reading packed curves. No condition. -/
namespace Go.Proofs.YtpjpfdoaemoddaaGreat
open Go Go.RowKit
set_option linter.unusedSimpArgs false
set_option linter.unusedVariables false

theorem check_same {b : List UInt8} (hl : b.length ≤ 1048576) : ∃ q, spec_l25Open b 67 = some q ∧ impl_checkPacked__impl_UnpackCurve_c1 b = some q ∧ (q = 0 → 3 ≤ b.length ∧ b.length ≤ 8000) := by
  unfold spec_l25Open impl_checkPacked__impl_UnpackCurve_c1
  simp only [impl_UnpackCurve_c1, Option.isSome_some, Option.getD_some, Bool.or_true, ck_true]
  by_cases hsz : b.length < 3 ∨ 8000 < b.length
  · have e : (decide ((b.length : Int) < 3) || decide (8000 < (b.length : Int))) = true := by simp; omega
    simp only [e, Bool.not_true, Bool.not_false, Bool.true_or, ck_true, if_true]
    exact ⟨8, rfl, rfl, fun c => absurd c (by decide)⟩
  · have e : (decide ((b.length : Int) < 3) || decide (8000 < (b.length : Int))) = false := by simp; omega
    have hix : ixOk 0 b.length = true := (by rw [show (0 : Int) = ((0 : Nat) : Int) from rfl, ixOk_nat]; simp; omega)
    simp only [e, hix, Bool.or_true, ck_true, Bool.false_or]
    cases hk : (((b.getD 0 default).toNat : Int) == 67)
    · simp only [Bool.not_false, if_true]
      exact ⟨8, rfl, rfl, fun c => absurd c (by decide)⟩
    · have hw1 : IntKind.i64.wrap ((b.length : Int) - 2) = (b.length : Int) - 2 := wrap_i64 (by omega) (by omega)
      have hw2 : IntKind.i64.wrap ((b.length : Int) - 1) = (b.length : Int) - 1 := wrap_i64 (by omega) (by omega)
      have hw3 : IntKind.i64.wrap ((b.length : Int) - 2 + 1) = (b.length : Int) - 1 := by rw [show (b.length : Int) - 2 + 1 = (b.length : Int) - 1 by omega]; exact hw2
      have i1 : ixOk ((b.length : Int) - 2) b.length = true := ixOk_of (by omega) (by omega)
      have i2 : ixOk ((b.length : Int) - 1) b.length = true := ixOk_of (by omega) (by omega)
      have i3 : cutOk 0 ((b.length : Int) - 2) b.length = true := cutOk_of (by omega) (by omega) (by omega)
      obtain ⟨s, hs1, hs2, hs3, hs4⟩ := sum_is (b := cut b 0 ((b.length : Int) - 2)) (by simp only [cut, List.length_drop, List.length_take]; omega)
      simp only [hw1, hw2, hw3, i1, i2, i3, ck_true, hs1, hs4, Option.bind_some, Bool.not_true, Bool.false_eq_true, if_false]
      have c1 : (256 : Int) * ((b.getD ((b.length : Int) - 2).toNat default).toNat : Int) = ((b.getD ((b.length : Int) - 2).toNat default).toNat : Int) * 256 := Int.mul_comm _ _
      rw [c1]
      generalize IntKind.i64.wrap (IntKind.i64.wrap (((b.getD ((b.length : Int) - 2).toNat default).toNat : Int) * 256) + ((b.getD ((b.length : Int) - 1).toNat default).toNat : Int)) = q
      rw [beq_comm' q s]
      cases (s == q)
      · exact ⟨9, rfl, rfl, fun c => absurd c (by decide)⟩
      · exact ⟨0, rfl, rfl, fun _ => by omega⟩

/-! ### The loops -/

theorem spec_loop (b : List UInt8) : ∀ (k : Nat) (r : L25R) (out : List Point) (time mag : Int), r.b_.length ≤ 1048576 → 0 ≤ r.at_ → r.at_ ≤ r.b_.length → out.length + k ≤ 1000 →
    ∃ rf ext, whileE (spec_UnpackCurve_l1 b) (r, out, time, mag, (k : Int)) = some (rf, out ++ ext) ∧ ext.length ≤ k ∧ (r.ok_ = false → rf.ok_ = false)
  | 0, r, out, time, mag, h1, h2, h3, h4 => ⟨r, [], by rw [whileE_done (r := (r, out)) (by simp [spec_UnpackCurve_l1])]; simp, by simp, fun c => c⟩
  | k + 1, r, out, time, mag, h1, h2, h3, h4 => by
    by_cases ho : r.ok_ = true
    · obtain ⟨n1, r1, e1, b1, l1, u1, _⟩ := num_total h1 h2 h3 10000000
      obtain ⟨n2, r2, e2, b2, l2, u2, _⟩ := num_total (r := r1) (by rw [b1]; exact h1) l1 (by rw [b1]; exact u1) 100000
      obtain ⟨m, em⟩ := unfold_some n2
      have hs : spec_UnpackCurve_l1 b (r, out, time, mag, ((k + 1 : Nat) : Int)) = some (.inl (r2, out ++ [⟨IntKind.i64.wrap (time + n1), IntKind.i64.wrap (mag + m)⟩], IntKind.i64.wrap (time + n1), IntKind.i64.wrap (mag + m), (k : Int))) := by
        have p : decide ((0 : Int) < ((k + 1 : Nat) : Int)) = true := decide_eq_true (by omega)
        have w : IntKind.i64.wrap (((k + 1 : Nat) : Int) - 1) = (k : Int) := by rw [wrap_i64 (by omega) (by omega)]; omega
        simp only [spec_UnpackCurve_l1, p, ho, Bool.and_self, if_true, e1, e2, em, Option.bind_some, w]
        rw [appOk_of (by simp; omega), ck_true]
      rw [whileE_next hs]
      obtain ⟨rf, ext, q1, q2, q3⟩ := spec_loop b k r2 (out ++ [⟨IntKind.i64.wrap (time + n1), IntKind.i64.wrap (mag + m)⟩]) (IntKind.i64.wrap (time + n1)) (IntKind.i64.wrap (mag + m)) (by rw [b2, b1]; exact h1) l2 (by rw [b2]; exact u2) (by simp; omega)
      exact ⟨rf, [⟨IntKind.i64.wrap (time + n1), IntKind.i64.wrap (mag + m)⟩] ++ ext, by rw [q1, List.append_assoc], by simp; omega, fun c => by rw [ho] at c; cases c⟩
    · have ho' : r.ok_ = false := by simpa using ho
      exact ⟨r, [], by rw [whileE_done (r := (r, out)) (by simp [spec_UnpackCurve_l1, ho'])]; simp, by simp, fun _ => ho'⟩

theorem impl_bad (b : List UInt8) (c : Int) (hc : c ≤ 1000) : ∀ (k : Nat) (u : Unpacker) (out : List Point) (time mag t : Int), u.bad_ = true → 0 ≤ t → t + k = c → out.length ≤ t + 1 →
    ∃ uf ext, whileE (impl_UnpackCurve_l1 b c) (u, out, time, mag, t) = some (uf, ext) ∧ ext.length ≤ 1002 ∧ uf.bad_ = true
  | 0, u, out, time, mag, t, h1, h2, h3, h4 => ⟨u, out, whileE_done (by
      have : ¬ t < c := by omega
      simp [impl_UnpackCurve_l1, this]), by omega, h1⟩
  | k + 1, u, out, time, mag, t, h1, h2, h3, h4 => by
    obtain ⟨m, em⟩ := unfold_some 0
    have hs : impl_UnpackCurve_l1 b c (u, out, time, mag, t) = some (.inl (⟨u.rest_, true⟩, out ++ [⟨IntKind.i64.wrap (time + 0), IntKind.i64.wrap (mag + m)⟩], IntKind.i64.wrap (time + 0), IntKind.i64.wrap (mag + m), t + 1)) := by
      have p : decide (t < c) = true := by simp; omega
      have w : IntKind.i64.wrap (t + 1) = t + 1 := wrap_i64 (by omega) (by omega)
      simp only [impl_UnpackCurve_l1, p, if_true, bad_num h1, Option.bind_some, unfold_same, w]
      rw [bad_num (u := ⟨u.rest_, true⟩) rfl]
      simp only [Option.bind_some, em]
      rw [appOk_of (by simp; omega), ck_true]
    rw [whileE_next hs]
    exact impl_bad b c hc k ⟨u.rest_, true⟩ _ _ _ _ rfl (by omega) (by omega) (by simp; omega)

/-- A point that no good curve has. -/
def spoilt (c : List Point) : Prop := ∃ i, i < c.length ∧ okP c i = false

theorem spoilt_good {c : List Point} (h : spoilt c) : goodP c = false := by
  obtain ⟨i, hi, ho⟩ := h
  cases hg : goodP c with
  | false => rfl
  | true =>
    unfold goodP at hg
    have := all_range' hg hi
    rw [ho] at this; cases this

theorem getD_app {α : Type} {c e : List α} {i : Nat} (hi : i < c.length) (d : α) : (c ++ e).getD i d = c.getD i d := by
  rw [List.getD_eq_getElem?_getD, List.getD_eq_getElem?_getD, List.getElem?_append_left hi]

theorem spoilt_app {c e : List Point} (h : spoilt c) : spoilt (c ++ e) := by
  obtain ⟨i, hi, ho⟩ := h
  refine ⟨i, by simp; omega, ?_⟩
  have h1 := getD_app (e := e) hi (default : Point)
  have h2 := getD_app (e := e) (show i - 1 < c.length by omega) (default : Point)
  unfold okP at ho ⊢
  rw [h1, h2]; exact ho

def lastMag (c : List Point) : Int := if c.length = 0 then 0 else (c.getD (c.length - 1) default).Mag

theorem spoilt_jump {c : List Point} {t m : Int} (h : m - lastMag c < -22000 ∨ 22000 < m - lastMag c) : spoilt (c ++ [⟨t, m⟩]) := by
  have e : (c ++ [(⟨t, m⟩ : Point)]).getD c.length default = ⟨t, m⟩ := by
    rw [List.getD_eq_getElem?_getD, List.getElem?_append_right (Nat.le_refl _), Nat.sub_self]; rfl
  by_cases hm : -2000 ≤ m ∧ m ≤ 20000
  · unfold lastMag at h
    split at h
    · omega
    · rename_i hl
      refine ⟨c.length - 1, by simp; omega, ?_⟩
      have h1 := getD_app (e := [(⟨t, m⟩ : Point)]) (show c.length - 1 < c.length by omega) (default : Point)
      unfold okP
      rw [h1]
      have : (decide (-2000 ≤ (c.getD (c.length - 1) default).Mag) && decide ((c.getD (c.length - 1) default).Mag ≤ 20000)) = false := by
        rw [Bool.and_eq_false_iff, decide_eq_false_iff_not, decide_eq_false_iff_not]; omega
      rw [this, Bool.and_false, Bool.false_and]
  · refine ⟨c.length, by simp, ?_⟩
    unfold okP
    rw [e]
    have : (decide (-2000 ≤ m) && decide (m ≤ 20000)) = false := by
      rw [Bool.and_eq_false_iff, decide_eq_false_iff_not, decide_eq_false_iff_not]; omega
    simp only [this, Bool.and_false, Bool.false_and]

theorem lastMag_app (c : List Point) (t m : Int) : lastMag (c ++ [⟨t, m⟩]) = m := by
  unfold lastMag
  rw [if_neg (by simp)]
  have e : (c ++ [(⟨t, m⟩ : Point)]).getD ((c ++ [(⟨t, m⟩ : Point)]).length - 1) default = ⟨t, m⟩ := by
    rw [List.length_append, List.length_cons, List.length_nil, Nat.zero_add, Nat.add_sub_cancel, List.getD_eq_getElem?_getD, List.getElem?_append_right (Nat.le_refl _), Nat.sub_self]; rfl
  rw [e]

theorem both_loop (b : List UInt8) {body : List UInt8} (hb : body.length ≤ 1048576) (c : Int) (hc : c ≤ 1000) : ∀ (k : Nat) (r : L25R) (u : Unpacker) (out : List Point) (time mag t : Int), Rel body r u → (out.length : Int) = t → t + k = c → mag = lastMag out → -50001 * t ≤ mag → mag ≤ 50000 * t →
    ∃ rf uf outS outI, whileE (spec_UnpackCurve_l1 b) (r, out, time, mag, (k : Int)) = some (rf, outS) ∧ whileE (impl_UnpackCurve_l1 b c) (u, out, time, mag, t) = some (uf, outI) ∧ outS.length ≤ 2000 ∧ outI.length ≤ 2000 ∧
      ((rf.ok_ = true ∧ uf.bad_ = false ∧ outS = outI) ∨ (uf.bad_ = true ∧ (rf.ok_ = false ∨ goodP outS = false)))
  | 0, r, u, out, time, mag, t, hr, ht, hk, hm, hm1, hm2 => by
    refine ⟨r, u, out, out, whileE_done (by simp [spec_UnpackCurve_l1]), whileE_done ?_, by omega, by omega, .inl ⟨hr.ok, hr.good, rfl⟩⟩
    have : ¬ t < c := by omega
    simp [impl_UnpackCurve_l1, this]
  | k + 1, r, u, out, time, mag, t, hr, ht, hk, hm, hm1, hm2 => by
    have p : decide ((0 : Int) < ((k + 1 : Nat) : Int)) = true := decide_eq_true (by omega)
    have w : IntKind.i64.wrap (((k + 1 : Nat) : Int) - 1) = (k : Int) := by rw [wrap_i64 (by omega) (by omega)]; omega
    have p2 : decide (t < c) = true := by simp; omega
    have w2 : IntKind.i64.wrap (t + 1) = t + 1 := wrap_i64 (by omega) (by omega)
    have ap : ∀ x : Point, appOk (out.length + ([x] : List Point).length) 16 = true := fun x => appOk_of (by simp; omega)
    obtain ⟨n1, ok1, r1, u1, hr1, e1⟩ := num_is hb hr
    obtain ⟨s1, i1⟩ := e1 10000000
    -- what happens behind a failure
    have fail : ∀ (y6 : Int) (ra : L25R) (ua : Unpacker) (y7 : Int) (rb : L25R) (ub : Unpacker) (m7 : Int), spec_l25R_number r 10000000 = some (y6, ra) → impl_unpacker_number u 10000000 = some (y6, ua) →
        spec_l25R_number ra 100000 = some (y7, rb) → rb.b_ = body → 0 ≤ rb.at_ → rb.at_ ≤ body.length → rb.ok_ = false → impl_unpacker_number ua 44000 = some (m7, ub) → ub.bad_ = true →
        ∃ rf uf outS outI, whileE (spec_UnpackCurve_l1 b) (r, out, time, mag, ((k + 1 : Nat) : Int)) = some (rf, outS) ∧ whileE (impl_UnpackCurve_l1 b c) (u, out, time, mag, t) = some (uf, outI) ∧ outS.length ≤ 2000 ∧ outI.length ≤ 2000 ∧
          ((rf.ok_ = true ∧ uf.bad_ = false ∧ outS = outI) ∨ (uf.bad_ = true ∧ (rf.ok_ = false ∨ goodP outS = false))) := by
      intro y6 ra ua y7 rb ub m7 a1 a2 a3 a4 a5 a6 a7 a8 a9
      obtain ⟨z, ez⟩ := unfold_some y7
      obtain ⟨z2, ez2⟩ := unfold_some m7
      have hs : spec_UnpackCurve_l1 b (r, out, time, mag, ((k + 1 : Nat) : Int)) = some (.inl (rb, out ++ [⟨IntKind.i64.wrap (time + y6), IntKind.i64.wrap (mag + z)⟩], IntKind.i64.wrap (time + y6), IntKind.i64.wrap (mag + z), (k : Int))) := by
        simp only [spec_UnpackCurve_l1, p, hr.ok, Bool.and_self, if_true, a1, a3, ez, Option.bind_some, w, ap, ck_true]
      have hi : impl_UnpackCurve_l1 b c (u, out, time, mag, t) = some (.inl (ub, out ++ [⟨IntKind.i64.wrap (time + y6), IntKind.i64.wrap (mag + z2)⟩], IntKind.i64.wrap (time + y6), IntKind.i64.wrap (mag + z2), t + 1)) := by
        simp only [impl_UnpackCurve_l1, p2, if_true, a2, a8, unfold_same, ez2, Option.bind_some, w2, ap, ck_true]
      rw [whileE_next hs, whileE_next hi]
      obtain ⟨rf, ext, q1, q2, q3⟩ := spec_loop b k rb (out ++ [⟨IntKind.i64.wrap (time + y6), IntKind.i64.wrap (mag + z)⟩]) (IntKind.i64.wrap (time + y6)) (IntKind.i64.wrap (mag + z)) (by rw [a4]; exact hb) a5 (by rw [a4]; exact a6) (by simp; omega)
      obtain ⟨uf, cf, v1, v2, v3⟩ := impl_bad b c hc k ub (out ++ [⟨IntKind.i64.wrap (time + y6), IntKind.i64.wrap (mag + z2)⟩]) (IntKind.i64.wrap (time + y6)) (IntKind.i64.wrap (mag + z2)) (t + 1) a9 (by omega) (by omega) (by simp; omega)
      exact ⟨rf, uf, _, cf, q1, v1, by simp; omega, by omega, .inr ⟨v3, .inl (q3 a7)⟩⟩
    by_cases c1 : (!ok1 || decide ((10000000 : Int) < (n1 : Int))) = true
    · rw [if_pos c1] at s1 i1
      obtain ⟨y7, rb, a3, a4, a5, a6, a7⟩ := num_total (r := ⟨body, r.at_, false⟩) hb hr.lo hr.hi 100000
      exact fail 0 _ _ y7 rb _ 0 s1 i1 a3 a4 a5 a6 (a7 rfl) (bad_num rfl 44000) rfl
    rw [if_neg c1] at s1 i1
    obtain ⟨n2, ok2, r2, u2, hr2, e2⟩ := num_is hb hr1
    have s2 := (e2 100000).1
    have i2 := (e2 44000).2
    by_cases c2 : (!ok2 || decide ((100000 : Int) < (n2 : Int))) = true
    · rw [if_pos c2] at s2
      have c3 : (!ok2 || decide ((44000 : Int) < (n2 : Int))) = true := by
        simp only [Bool.or_eq_true, Bool.not_eq_true', decide_eq_true_eq] at c2 ⊢
        rcases c2 with h | h
        · exact .inl h
        · exact .inr (by omega)
      rw [if_pos c3] at i2
      exact fail _ _ _ 0 ⟨body, r1.at_, false⟩ _ 0 s1 i1 s2 rfl hr1.lo hr1.hi rfl i2 rfl
    rw [if_neg c2] at s2
    simp only [Bool.or_eq_true, Bool.not_eq_true', decide_eq_true_eq, not_or, Bool.not_eq_false] at c2
    obtain ⟨hok2, hn2⟩ := c2
    obtain ⟨m, em, m1, m2, m3⟩ := unfold_is (n := (n2 : Int)) (by omega) (by omega)
    have wm : IntKind.i64.wrap (mag + m) = mag + m := wrap_i64 (by omega) (by omega)
    have hs : spec_UnpackCurve_l1 b (r, out, time, mag, ((k + 1 : Nat) : Int)) = some (.inl (r2, out ++ [⟨IntKind.i64.wrap (time + n1), mag + m⟩], IntKind.i64.wrap (time + n1), mag + m, (k : Int))) := by
      simp only [spec_UnpackCurve_l1, p, hr.ok, Bool.and_self, if_true, s1, s2, em, Option.bind_some, w, wm, ap, ck_true]
    by_cases c3 : (44000 : Int) < (n2 : Int)
    · have c4 : (!ok2 || decide ((44000 : Int) < (n2 : Int))) = true := by simp [c3]
      rw [if_pos c4] at i2
      obtain ⟨z2, ez2⟩ := unfold_some 0
      have hi : impl_UnpackCurve_l1 b c (u, out, time, mag, t) = some (.inl (⟨u1.rest_, true⟩, out ++ [⟨IntKind.i64.wrap (time + n1), IntKind.i64.wrap (mag + z2)⟩], IntKind.i64.wrap (time + n1), IntKind.i64.wrap (mag + z2), t + 1)) := by
        simp only [impl_UnpackCurve_l1, p2, if_true, i1, i2, unfold_same, ez2, Option.bind_some, w2, ap, ck_true]
      rw [whileE_next hs, whileE_next hi]
      obtain ⟨rf, ext, q1, q2, q3⟩ := spec_loop b k r2 (out ++ [⟨IntKind.i64.wrap (time + n1), mag + m⟩]) (IntKind.i64.wrap (time + n1)) (mag + m) (by rw [hr2.b]; exact hb) hr2.lo (by rw [hr2.b]; exact hr2.hi) (by simp; omega)
      obtain ⟨uf, cf, v1, v2, v3⟩ := impl_bad b c hc k ⟨u1.rest_, true⟩ (out ++ [⟨IntKind.i64.wrap (time + n1), IntKind.i64.wrap (mag + z2)⟩]) (IntKind.i64.wrap (time + n1)) (IntKind.i64.wrap (mag + z2)) (t + 1) rfl (by omega) (by omega) (by simp; omega)
      refine ⟨rf, uf, _, cf, q1, v1, by simp; omega, by omega, .inr ⟨v3, .inr (spoilt_good (spoilt_app (spoilt_jump ?_)))⟩⟩
      rw [← hm]
      have := m3 c3
      omega
    · have c4 : ¬ (!ok2 || decide ((44000 : Int) < (n2 : Int))) = true := by simp [c3, hok2]
      rw [if_neg c4] at i2
      have hi : impl_UnpackCurve_l1 b c (u, out, time, mag, t) = some (.inl (u2, out ++ [⟨IntKind.i64.wrap (time + n1), mag + m⟩], IntKind.i64.wrap (time + n1), mag + m, t + 1)) := by
        simp only [impl_UnpackCurve_l1, p2, if_true, i1, i2, unfold_same, em, Option.bind_some, w2, wm, ap, ck_true]
      rw [whileE_next hs, whileE_next hi]
      exact both_loop b hb c hc k r2 u2 (out ++ [⟨IntKind.i64.wrap (time + n1), mag + m⟩]) (IntKind.i64.wrap (time + n1)) (mag + m) (t + 1) hr2 (by simp; omega) (by omega) (lastMag_app _ _ _).symm (by omega) (by omega)

theorem UnpackCurve_same {b : List UInt8} (hl : b.length ≤ 1048576) : ∃ l k, l.length ≤ 2000 ∧ spec_UnpackCurve b = some (l, k) ∧ impl_UnpackCurve b = some (l, k) := by
  unfold spec_UnpackCurve impl_UnpackCurve
  obtain ⟨q, q1, q2, q3⟩ := check_same hl
  rw [q1, q2]
  simp only [Option.bind_some]
  by_cases hq : q = 0
  · obtain ⟨l3, l8⟩ := q3 hq
    subst hq
    have w : IntKind.i64.wrap ((b.length : Int) - 2) = (b.length : Int) - 2 := wrap_i64 (by omega) (by omega)
    have k1 : cutOk 0 ((b.length : Int) - 2) b.length = true := cutOk_of (by omega) (by omega) (by omega)
    have k2 : cutOk 1 ((b.length : Int) - 2) b.length = true := cutOk_of (by omega) (by omega) (by omega)
    simp only [beq_self_eq_true, Bool.not_true, Bool.false_eq_true, if_false, w, k1, k2, ck_true]
    have hbody : (cut b 0 ((b.length : Int) - 2)).length = b.length - 2 := by simp only [cut, List.length_drop, List.length_take]; omega
    have hrel : Rel (cut b 0 ((b.length : Int) - 2)) ⟨cut b 0 ((b.length : Int) - 2), 1, true⟩ ⟨cut b 1 ((b.length : Int) - 2), false⟩ := by
      refine ⟨rfl, by show (0 : Int) ≤ 1; omega, by show (1 : Int) ≤ _; rw [hbody]; omega, rfl, ?_, rfl⟩
      simp [cut]
    generalize cut b 0 ((b.length : Int) - 2) = body at hrel hbody
    generalize cut b 1 ((b.length : Int) - 2) = rest at hrel
    obtain ⟨n0, ok0, r0, u0, hr0, e0⟩ := num_is (by omega) hrel
    obtain ⟨s0, i0⟩ := e0 100
    rw [s0, i0]
    simp only [Option.bind_some]
    by_cases c0 : (!ok0 || decide ((100 : Int) < (n0 : Int))) = true
    · rw [if_pos c0, if_pos c0]
      simp only
      rw [whileE_done (r := (⟨body, 1, false⟩, [])) (by simp [spec_UnpackCurve_l1]), whileE_done (r := (⟨rest, true⟩, [])) (by simp [impl_UnpackCurve_l1])]
      have e2 : ∃ l kk, impl_PackCurve [] = some (l, kk) := by
        have h := Curve_is (c := []) (by simp)
        rw [if_pos (by rfl)] at h
        obtain ⟨l, _, _, h3⟩ := h
        exact ⟨l, 0, h3⟩
      obtain ⟨l, kk, e2⟩ := e2
      simp only [Option.bind_some, e2, Bool.not_false, Bool.not_true, Bool.false_or, Bool.true_or, Bool.or_true, ck_true, if_true]
      exact ⟨[], 8, by simp, rfl, rfl⟩
    · rw [if_neg c0, if_neg c0]
      simp only [Bool.or_eq_true, Bool.not_eq_true', decide_eq_true_eq, not_or, Bool.not_eq_false] at c0
      simp only
      obtain ⟨rf, uf, oS, oI, v1, v2, v3, v4, v5⟩ := both_loop b (by omega) (n0 : Int) (by omega) n0 r0 u0 [] 0 0 0 hr0 rfl (by omega) rfl (by omega) (by omega)
      rw [v1, v2]
      simp only [Option.bind_some]
      have hcu := Curve_is (c := oI) (by omega)
      have hk := l08Ok_is (c := oS) (by omega)
      rcases v5 with ⟨o1, o2, rfl⟩ | ⟨o1, o2⟩
      · rw [hk]
        cases hg : (goodP oS && decide (oS.length ≤ 100))
        · rw [hg, if_neg Bool.false_ne_true] at hcu
          rw [hcu]
          simp only [o1, o2, Option.bind_some, Bool.not_true, Bool.not_false, Bool.or_true, Bool.true_or, Bool.false_or, Option.isSome_some, Option.getD_some, ck_true, bytes_Equal, if_true]
          exact ⟨[], 8, by simp, rfl, by simp⟩
        · rw [hg, if_pos rfl] at hcu
          obtain ⟨cu, _, c1, c2⟩ := hcu
          rw [c2, c1]
          simp only [o1, o2, Option.bind_some, Option.isSome_some, Option.getD_some, Bool.or_true, ck_true, Bool.not_true, Bool.false_or, beq_self_eq_true, bytes_Equal]
          cases (cu == b)
          · exact ⟨[], 8, by simp, rfl, rfl⟩
          · exact ⟨oS, 0, v3, rfl, rfl⟩
      · have e2 : ∃ l kk, impl_PackCurve oI = some (l, kk) := by
          split at hcu
          · obtain ⟨l, _, _, h3⟩ := hcu; exact ⟨l, 0, h3⟩
          · exact ⟨_, _, hcu⟩
        obtain ⟨l, kk, e2⟩ := e2
        rw [e2]
        simp only [Option.bind_some]
        simp only [o1, Bool.true_or, Bool.not_true, Bool.false_or, bytes_Equal, Option.isSome_some, Bool.or_true, ck_true, if_true]
        refine ⟨[], 8, by simp, ?_, rfl⟩
        rcases o2 with o2 | o2
        · simp [o2, ck_true]
        · rw [hk, o2]
          simp [ck_true]
  · have h : (!(q == 0)) = true := by simpa using hq
    simp only [h, if_true]
    exact ⟨[], q, by simp, rfl, rfl⟩

end Go.Proofs.YtpjpfdoaemoddaaGreat

/- What typed forms say: reading packed estimates. No condition. -/
namespace Go.Proofs.YtpjpfdoaemoddaaGreat
open Go Go.RowKit
set_option linter.unusedSimpArgs false
set_option linter.unusedVariables false

theorem check_sameE {b : List UInt8} (hl : b.length ≤ 1048576) : ∃ q, spec_l25Open b 69 = some q ∧ impl_checkPacked__impl_UnpackEstimates_c1 b = some q ∧ (q = 0 → 3 ≤ b.length ∧ b.length ≤ 8000) := by
  unfold spec_l25Open impl_checkPacked__impl_UnpackEstimates_c1
  simp only [impl_UnpackEstimates_c1, Option.isSome_some, Option.getD_some, Bool.or_true, ck_true]
  by_cases hsz : b.length < 3 ∨ 8000 < b.length
  · have e : (decide ((b.length : Int) < 3) || decide (8000 < (b.length : Int))) = true := by simp; omega
    simp only [e, Bool.not_true, Bool.not_false, Bool.true_or, ck_true, if_true]
    exact ⟨8, rfl, rfl, fun c => absurd c (by decide)⟩
  · have e : (decide ((b.length : Int) < 3) || decide (8000 < (b.length : Int))) = false := by simp; omega
    have hix : ixOk 0 b.length = true := (by rw [show (0 : Int) = ((0 : Nat) : Int) from rfl, ixOk_nat]; simp; omega)
    simp only [e, hix, Bool.or_true, ck_true, Bool.false_or]
    cases hk : (((b.getD 0 default).toNat : Int) == 69)
    · simp only [Bool.not_false, if_true]
      exact ⟨8, rfl, rfl, fun c => absurd c (by decide)⟩
    · have hw1 : IntKind.i64.wrap ((b.length : Int) - 2) = (b.length : Int) - 2 := wrap_i64 (by omega) (by omega)
      have hw2 : IntKind.i64.wrap ((b.length : Int) - 1) = (b.length : Int) - 1 := wrap_i64 (by omega) (by omega)
      have hw3 : IntKind.i64.wrap ((b.length : Int) - 2 + 1) = (b.length : Int) - 1 := by rw [show (b.length : Int) - 2 + 1 = (b.length : Int) - 1 by omega]; exact hw2
      have i1 : ixOk ((b.length : Int) - 2) b.length = true := ixOk_of (by omega) (by omega)
      have i2 : ixOk ((b.length : Int) - 1) b.length = true := ixOk_of (by omega) (by omega)
      have i3 : cutOk 0 ((b.length : Int) - 2) b.length = true := cutOk_of (by omega) (by omega) (by omega)
      obtain ⟨s, hs1, hs2, hs3, hs4⟩ := sum_is (b := cut b 0 ((b.length : Int) - 2)) (by simp only [cut, List.length_drop, List.length_take]; omega)
      simp only [hw1, hw2, hw3, i1, i2, i3, ck_true, hs1, hs4, Option.bind_some, Bool.not_true, Bool.false_eq_true, if_false]
      have c1 : (256 : Int) * ((b.getD ((b.length : Int) - 2).toNat default).toNat : Int) = ((b.getD ((b.length : Int) - 2).toNat default).toNat : Int) * 256 := Int.mul_comm _ _
      rw [c1]
      generalize IntKind.i64.wrap (IntKind.i64.wrap (((b.getD ((b.length : Int) - 2).toNat default).toNat : Int) * 256) + ((b.getD ((b.length : Int) - 1).toNat default).toNat : Int)) = q
      rw [beq_comm' q s]
      cases (s == q)
      · exact ⟨9, rfl, rfl, fun c => absurd c (by decide)⟩
      · exact ⟨0, rfl, rfl, fun _ => by omega⟩

/-- A number that is read, whatever stands there. -/
theorem num_all {r : L25R} (hb : r.b_.length ≤ 1048576) (h0 : 0 ≤ r.at_) (h1 : r.at_ ≤ r.b_.length) (most : Int) : ∃ n r', spec_l25R_number r most = some (n, r') ∧ r'.b_ = r.b_ ∧ 0 ≤ r'.at_ ∧ r'.at_ ≤ r.b_.length ∧ (r.ok_ = false → r'.ok_ = false) ∧ 0 ≤ n ∧ (r'.ok_ = true → n ≤ most) := by
  obtain ⟨rb, ra, ro⟩ := r
  simp only at hb h0 h1
  obtain ⟨n, k, ok, e1, e2, hn, hk, hk9⟩ := read_is (rb.drop ra.toNat)
  rw [List.length_drop] at hk
  unfold spec_l25R_number
  simp only
  rw [cutOk_of h0 h1 (by omega), ck_true, cut_drop, e1]
  simp only [Option.bind_some]
  by_cases c : (!ok || decide (most < (n : Int))) = true
  · rw [if_pos c]
    exact ⟨_, _, rfl, rfl, h0, h1, fun _ => rfl, by omega, fun e => absurd e Bool.false_ne_true⟩
  · rw [if_neg c]
    simp only [Bool.or_eq_true, Bool.not_eq_true', decide_eq_true_eq, not_or, Bool.not_eq_false] at c
    rw [wrap_i64 (n := ra + (k : Int)) (by omega) (by omega)]
    exact ⟨_, _, rfl, rfl, by show 0 ≤ ra + (k : Int); omega, by show ra + (k : Int) ≤ rb.length; omega, fun c => c, by omega, fun _ => by omega⟩

/-! ### Names -/

theorem cut_mid {body : List UInt8} {a n : Int} (h0 : 0 ≤ a) (h1 : 0 ≤ n) : cut (body.drop a.toNat) 0 n = cut body a (a + n) := by
  simp only [cut]
  rw [show ((0 : Int).toNat) = 0 from rfl, List.drop_zero, List.take_drop]
  congr 2
  omega

theorem names_loop {body : List UInt8} (hb : body.length ≤ 1048576) (c : Int) (hc : c ≤ 1000) : ∀ (k : Nat) (r : L25R) (u : Unpacker) (out : List Bs) (t : Int), Rel body r u → (out.length : Int) = t → t + k = c →
    ∃ rf outS, whileE spec_l25R_names_l1 (r, out, (k : Int)) = some (rf, outS) ∧ outS.length ≤ 2000 ∧
      ((∃ uf, Rel body rf uf ∧ whileE (impl_unpacker_names_l1 c) (u, out, t) = some (.inl (uf, outS))) ∨
       (rf.ok_ = false ∧ rf.b_ = body ∧ 0 ≤ rf.at_ ∧ rf.at_ ≤ body.length ∧ ∃ uf, whileE (impl_unpacker_names_l1 c) (u, out, t) = some (.inr (uf, [])) ∧ uf.bad_ = true))
  | 0, r, u, out, t, hr, ht, hk => by
    refine ⟨r, out, whileE_done (by simp [spec_l25R_names_l1]), by omega, .inl ⟨u, hr, whileE_done ?_⟩⟩
    have : ¬ t < c := by omega
    simp [impl_unpacker_names_l1, this]
  | k + 1, r, u, out, t, hr, ht, hk => by
    have p : decide ((0 : Int) < ((k + 1 : Nat) : Int)) = true := decide_eq_true (by omega)
    have w : IntKind.i64.wrap (((k + 1 : Nat) : Int) - 1) = (k : Int) := by rw [wrap_i64 (by omega) (by omega)]; omega
    have p2 : decide (t < c) = true := by simp; omega
    have w2 : IntKind.i64.wrap (t + 1) = t + 1 := wrap_i64 (by omega) (by omega)
    have ap : ∀ x : Bs, appOk (out.length + ([x] : List Bs).length) 16 = true := fun x => appOk_of (by simp; omega)
    obtain ⟨n1, ok1, r1, u1, hr1, e1⟩ := num_is hb hr
    obtain ⟨s1, i1⟩ := e1 12
    by_cases c1 : (!ok1 || decide ((12 : Int) < (n1 : Int))) = true
    · rw [if_pos c1] at s1 i1
      have h0 := hr.lo
      have h1 := hr.hi
      have wa : IntKind.i64.wrap (r.at_ + 0) = r.at_ := by rw [wrap_i64 (by omega) (by omega)]; omega
      have d0 : decide ((body.length : Int) < r.at_) = false := decide_eq_false (by omega)
      have hs : spec_l25R_names_l1 (r, out, ((k + 1 : Nat) : Int)) = some (.inl (⟨body, r.at_, false⟩, out ++ [cut body r.at_ r.at_], (k : Int))) := by
        simp only [spec_l25R_names_l1, p, hr.ok, Bool.and_self, if_true, s1, Option.bind_some, wa, d0, Bool.false_eq_true, if_false, cutOk_of h0 (Int.le_refl _) h1, ap, ck_true, w]
      have hi : impl_unpacker_names_l1 c (u, out, t) = some (.inr (.inr (⟨u.rest_, true⟩, []))) := by
        simp only [impl_unpacker_names_l1, p2, if_true, i1, Option.bind_some, Bool.true_or]
      refine ⟨⟨body, r.at_, false⟩, out ++ [cut body r.at_ r.at_], ?_, by simp; omega, .inr ⟨rfl, rfl, h0, h1, _, whileE_done hi, rfl⟩⟩
      rw [whileE_next hs]
      exact whileE_done (by simp [spec_l25R_names_l1])
    · rw [if_neg c1] at s1 i1
      simp only [Bool.or_eq_true, Bool.not_eq_true', decide_eq_true_eq, not_or, Bool.not_eq_false] at c1
      obtain ⟨rb, ra, ro⟩ := r1
      obtain ⟨ur, ub⟩ := u1
      obtain ⟨h1, h2, h3, h4, h5, h6⟩ := hr1
      simp only at h1 h2 h3 h4 h5 h6
      subst h1 h4 h5 h6
      have wa : IntKind.i64.wrap (ra + (n1 : Int)) = ra + (n1 : Int) := wrap_i64 (by omega) (by omega)
      have hlen : (((rb.drop ra.toNat).length : Nat) : Int) = rb.length - ra := by rw [List.length_drop]; omega
      by_cases hlt : (rb.length : Int) < ra + n1
      · have d0 : decide ((rb.length : Int) < ra + (n1 : Int)) = true := decide_eq_true hlt
        have d1 : decide (((rb.drop ra.toNat).length : Int) < (n1 : Int)) = true := decide_eq_true (by omega)
        have hs : spec_l25R_names_l1 (r, out, ((k + 1 : Nat) : Int)) = some (.inr (⟨rb, ra, false⟩, out)) := by
          simp only [spec_l25R_names_l1, p, hr.ok, Bool.and_self, if_true, s1, Option.bind_some, wa, d0]
        have hi : impl_unpacker_names_l1 c (u, out, t) = some (.inr (.inr (⟨rb.drop ra.toNat, true⟩, []))) := by
          simp only [impl_unpacker_names_l1, p2, if_true, i1, Option.bind_some, Bool.false_or, d1]
        exact ⟨_, _, whileE_done hs, by omega, .inr ⟨rfl, rfl, h2, h3, _, whileE_done hi, rfl⟩⟩
      · have d0 : decide ((rb.length : Int) < ra + (n1 : Int)) = false := decide_eq_false hlt
        have d1 : decide (((rb.drop ra.toNat).length : Int) < (n1 : Int)) = false := decide_eq_false (by omega)
        have hs : spec_l25R_names_l1 (r, out, ((k + 1 : Nat) : Int)) = some (.inl (⟨rb, ra + (n1 : Int), true⟩, out ++ [cut rb ra (ra + (n1 : Int))], (k : Int))) := by
          simp only [spec_l25R_names_l1, p, hr.ok, Bool.and_self, if_true, s1, Option.bind_some, wa, d0, Bool.false_eq_true, if_false, cutOk_of h2 (show ra ≤ ra + (n1 : Int) by omega) (show ra + (n1 : Int) ≤ rb.length by omega), ap, ck_true, w]
        have hi : impl_unpacker_names_l1 c (u, out, t) = some (.inl (⟨(rb.drop ra.toNat).drop (n1 : Int).toNat, false⟩, out ++ [cut rb ra (ra + (n1 : Int))], t + 1)) := by
          simp only [impl_unpacker_names_l1, p2, if_true, i1, Option.bind_some, Bool.false_or, d1, Bool.false_eq_true, if_false, cutOk_of (Int.le_refl 0) (show (0 : Int) ≤ (n1 : Int) by omega) (show (n1 : Int) ≤ (rb.drop ra.toNat).length by omega),
            cutOk_of (show (0 : Int) ≤ (n1 : Int) by omega) (show (n1 : Int) ≤ ((rb.drop ra.toNat).length : Int) by omega) (Int.le_refl _), ap, ck_true, w2, cut_drop, cut_mid h2 (show (0 : Int) ≤ (n1 : Int) by omega)]
        rw [whileE_next hs, whileE_next hi]
        refine names_loop hb c hc k _ _ _ (t + 1) ⟨rfl, by show 0 ≤ ra + (n1 : Int); omega, by show ra + (n1 : Int) ≤ rb.length; omega, rfl, ?_, rfl⟩ (by simp; omega) (by omega)
        show (rb.drop ra.toNat).drop (n1 : Int).toNat = rb.drop (ra + (n1 : Int)).toNat
        rw [List.drop_drop]
        congr 1
        omega

theorem names_is {body : List UInt8} (hb : body.length ≤ 1048576) {r : L25R} {u : Unpacker} (h : Rel body r u) : ∃ ns r', spec_l25R_names r = some (ns, r') ∧ ns.length ≤ 2000 ∧
    ((∃ u', Rel body r' u' ∧ impl_unpacker_names u = some (ns, u')) ∨ (r'.ok_ = false ∧ r'.b_ = body ∧ 0 ≤ r'.at_ ∧ r'.at_ ≤ body.length ∧ ∃ u', impl_unpacker_names u = some ([], u') ∧ u'.bad_ = true)) := by
  obtain ⟨n1, ok1, r1, u1, hr1, e1⟩ := num_is hb h
  obtain ⟨s1, i1⟩ := e1 100
  unfold spec_l25R_names impl_unpacker_names
  rw [s1, i1]
  simp only [Option.bind_some]
  by_cases c1 : (!ok1 || decide ((100 : Int) < (n1 : Int))) = true
  · rw [if_pos c1, if_pos c1]
    simp only
    rw [whileE_done (r := (⟨body, r.at_, false⟩, [])) (by simp [spec_l25R_names_l1]), whileE_done (r := .inl (⟨u.rest_, true⟩, [])) (by simp [impl_unpacker_names_l1])]
    exact ⟨_, _, rfl, by simp, .inr ⟨rfl, rfl, h.lo, h.hi, _, rfl, rfl⟩⟩
  · rw [if_neg c1, if_neg c1]
    simp only [Bool.or_eq_true, Bool.not_eq_true', decide_eq_true_eq, not_or, Bool.not_eq_false] at c1
    simp only
    obtain ⟨rf, oS, v1, v2, v3⟩ := names_loop hb (n1 : Int) (by omega) n1 r1 u1 [] 0 hr1 rfl (by omega)
    rw [v1]
    rcases v3 with ⟨uf, hf, v4⟩ | ⟨f1, f2, f3, f4, uf, v4, v5⟩
    · rw [v4]
      exact ⟨_, _, rfl, v2, .inl ⟨uf, hf, rfl⟩⟩
    · rw [v4]
      exact ⟨_, _, rfl, v2, .inr ⟨f1, f2, f3, f4, uf, rfl, v5⟩⟩

theorem names_bad {u : Unpacker} (h : u.bad_ = true) : impl_unpacker_names u = some ([], ⟨u.rest_, true⟩) := by
  unfold impl_unpacker_names
  rw [bad_num h]
  simp only [Option.bind_some]
  rw [whileE_done (r := .inl (⟨u.rest_, true⟩, [])) (by simp [impl_unpacker_names_l1])]
  rfl

theorem names_off {r : L25R} (hb : r.b_.length ≤ 1048576) (h0 : 0 ≤ r.at_) (h1 : r.at_ ≤ r.b_.length) (ho : r.ok_ = false) : ∃ r', spec_l25R_names r = some ([], r') ∧ r'.ok_ = false := by
  obtain ⟨n, r', e, _, _, _, h5, _⟩ := num_all hb h0 h1 100
  unfold spec_l25R_names
  rw [e]
  simp only [Option.bind_some]
  rw [whileE_done (r := (r', [])) (by simp [spec_l25R_names_l1, h5 ho])]
  exact ⟨r', rfl, h5 ho⟩

/-! ### Estimates -/

def spoiltE (l : List Estimate) : Prop := ∃ i, i < l.length ∧ oneE (l.getD i default) = false

theorem spoiltE_good {l : List Estimate} (h : spoiltE l) : goodE l = false := by
  obtain ⟨i, hi, ho⟩ := h
  cases hg : goodE l with
  | false => rfl
  | true => rw [(goodE_at hg hi).1] at ho; cases ho

theorem getD_appE {α : Type} {c e : List α} {i : Nat} (hi : i < c.length) (d : α) : (c ++ e).getD i d = c.getD i d := by
  rw [List.getD_eq_getElem?_getD, List.getD_eq_getElem?_getD, List.getElem?_append_left hi]

theorem spoiltE_app {c e : List Estimate} (h : spoiltE c) : spoiltE (c ++ e) := by
  obtain ⟨i, hi, ho⟩ := h
  exact ⟨i, by simp; omega, by rw [getD_appE hi]; exact ho⟩

def lastE (c : List Estimate) : Int := if c.length = 0 then 0 else (c.getD (c.length - 1) default).Mag

theorem oneE_off {e : Estimate} (h : ¬ (-2000 ≤ e.Mag ∧ e.Mag ≤ 20000)) : oneE e = false := by
  have : (decide (-2000 ≤ e.Mag) && decide (e.Mag ≤ 20000)) = false := by
    rw [Bool.and_eq_false_iff, decide_eq_false_iff_not, decide_eq_false_iff_not]; omega
  unfold oneE
  rw [this, Bool.and_false]

theorem getD_last {c : List Estimate} {x : Estimate} : (c ++ [x]).getD c.length default = x := by
  rw [List.getD_eq_getElem?_getD, List.getElem?_append_right (Nat.le_refl _), Nat.sub_self]; rfl

theorem spoiltE_jump {c : List Estimate} {x : Estimate} (h : x.Mag - lastE c < -22000 ∨ 22000 < x.Mag - lastE c) : spoiltE (c ++ [x]) := by
  by_cases hm : -2000 ≤ x.Mag ∧ x.Mag ≤ 20000
  · unfold lastE at h
    split at h
    · omega
    · refine ⟨c.length - 1, by simp; omega, ?_⟩
      rw [getD_appE (by omega)]
      exact oneE_off (by omega)
  · exact ⟨c.length, by simp, by rw [getD_last]; exact oneE_off hm⟩

theorem lastE_app (c : List Estimate) (x : Estimate) : lastE (c ++ [x]) = x.Mag := by
  unfold lastE
  rw [if_neg (by simp)]
  rw [List.length_append, List.length_cons, List.length_nil, Nat.zero_add, Nat.add_sub_cancel, getD_last]

theorem half_ok {n m : Int} (h0 : 0 ≤ n) (h1 : n ≤ 2 * m - 1) (hm : m ≤ 100000) : IntKind.i64.wrap (n.tdiv 2) = n / 2 ∧ 0 ≤ n / 2 ∧ n / 2 < m := by
  rw [Int.tdiv_eq_ediv_of_nonneg h0]
  refine ⟨wrap_i64 (by omega) (by omega), by omega, by omega⟩

section
variable (ss os : List Bs)

def entE (time n1 n2 n3 mag m : Int) : Estimate := Estimate.mk (IntKind.i64.wrap (time + n1)) (ss.getD n2.toNat default) (os.getD (IntKind.i64.wrap (n3.tdiv 2)).toNat default) (IntKind.i64.wrap (mag + m)) ((n3.tmod 2) == 1)

theorem spec_loopE (h1 : ss.length ≤ 2000) (h2 : os.length ≤ 2000) : ∀ (k : Nat) (r : L25R) (out : List Estimate) (time mag : Int), r.b_.length ≤ 1048576 → 0 ≤ r.at_ → r.at_ ≤ r.b_.length → out.length + k ≤ 1000 →
    ∃ rf ext, whileE (spec_l25List_l1 ss os) (r, out, time, mag, (k : Int)) = some (rf, out ++ ext) ∧ ext.length ≤ k ∧ (r.ok_ = false → rf.ok_ = false)
  | 0, r, out, time, mag, h1, h2, h3, h4 => ⟨r, [], by rw [whileE_done (r := (r, out)) (by simp [spec_l25List_l1])]; simp, by simp, fun c => c⟩
  | k + 1, r, out, time, mag, b0, l0, u0, h4 => by
    by_cases ho : r.ok_ = true
    · obtain ⟨n1, r1, e1, b1, l1, u1, _, g1, _⟩ := num_all b0 l0 u0 10000000
      obtain ⟨n2, r2, e2, b2, l2, u2, f2, g2, m2⟩ := num_all (r := r1) (by rw [b1]; exact b0) l1 (by rw [b1]; exact u1) ((ss.length : Int) - 1)
      obtain ⟨n3, r3, e3, b3, l3, u3, f3, g3, m3⟩ := num_all (r := r2) (by rw [b2, b1]; exact b0) l2 (by rw [b2]; exact u2) (2 * (os.length : Int) - 1)
      obtain ⟨n4, r4, e4, b4, l4, u4, f4, g4, m4⟩ := num_all (r := r3) (by rw [b3, b2, b1]; exact b0) l3 (by rw [b3]; exact u3) 100000
      obtain ⟨m, em⟩ := unfold_some n4
      have p : decide ((0 : Int) < ((k + 1 : Nat) : Int)) = true := decide_eq_true (by omega)
      have w : IntKind.i64.wrap (((k + 1 : Nat) : Int) - 1) = (k : Int) := by rw [wrap_i64 (by omega) (by omega)]; omega
      have w1 : IntKind.i64.wrap ((ss.length : Int) - 1) = (ss.length : Int) - 1 := wrap_i64 (by omega) (by omega)
      have w2 : IntKind.i64.wrap (2 * (os.length : Int)) = 2 * (os.length : Int) := wrap_i64 (by omega) (by omega)
      have w3 : IntKind.i64.wrap (2 * (os.length : Int) - 1) = 2 * (os.length : Int) - 1 := wrap_i64 (by omega) (by omega)
      by_cases hk : r4.ok_ = true
      · have o3 : r3.ok_ = true := by cases h : r3.ok_ with | true => rfl | false => rw [f4 h] at hk; cases hk
        have o2 : r2.ok_ = true := by cases h : r2.ok_ with | true => rfl | false => rw [f3 h] at o3; cases o3
        have q2 := m2 o2
        have q3 := m3 o3
        obtain ⟨x1, x2, x3⟩ := half_ok g3 q3 (by omega)
        have hs : spec_l25List_l1 ss os (r, out, time, mag, ((k + 1 : Nat) : Int)) = some (.inl (r4, out ++ [entE ss os time n1 n2 n3 mag m], IntKind.i64.wrap (time + n1), IntKind.i64.wrap (mag + m), (k : Int))) := by
          simp only [spec_l25List_l1, p, ho, Bool.and_self, if_true, e1, e2, e3, e4, em, Option.bind_some, w, w1, w2, w3, hk, Bool.not_true, Bool.false_eq_true, if_false]
          rw [ixOk_of g2 (by omega), ck_true, nz_of (by decide), ck_true, x1, ixOk_of x2 x3, ck_true, appOk_of (by simp; omega), ck_true]
          unfold entE
          rw [x1]
        rw [whileE_next hs]
        obtain ⟨rf, ext, q1, q2, q3⟩ := spec_loopE h1 h2 k r4 (out ++ [entE ss os time n1 n2 n3 mag m]) (IntKind.i64.wrap (time + n1)) (IntKind.i64.wrap (mag + m)) (by rw [b4, b3, b2, b1]; exact b0) l4 (by rw [b4]; exact u4) (by simp; omega)
        exact ⟨rf, [entE ss os time n1 n2 n3 mag m] ++ ext, by rw [q1, List.append_assoc], by simp; omega, fun c => by rw [ho] at c; cases c⟩
      · have hk2 : r4.ok_ = false := by simpa using hk
        have hs : spec_l25List_l1 ss os (r, out, time, mag, ((k + 1 : Nat) : Int)) = some (.inr (r4, out)) := by
          simp only [spec_l25List_l1, p, ho, Bool.and_self, if_true, e1, e2, e3, e4, em, Option.bind_some, w1, w2, w3, hk2, Bool.not_false]
        rw [whileE_done hs]
        exact ⟨r4, [], by simp, by simp, fun _ => hk2⟩
    · have ho2 : r.ok_ = false := by simpa using ho
      exact ⟨r, [], by rw [whileE_done (r := (r, out)) (by simp [spec_l25List_l1, ho2])]; simp, by simp, fun c => c⟩

theorem both_loopE (b : List UInt8) {body : List UInt8} (hb : body.length ≤ 1048576) (h1 : ss.length ≤ 2000) (h2 : os.length ≤ 2000) (c : Int) (hc : c ≤ 1000) : ∀ (k : Nat) (r : L25R) (u : Unpacker) (out : List Estimate) (time mag t : Int), Rel body r u → (out.length : Int) = t → t + k = c → mag = lastE out → -50001 * t ≤ mag → mag ≤ 50000 * t →
    ∃ rf outS, whileE (spec_l25List_l1 ss os) (r, out, time, mag, (k : Int)) = some (rf, outS) ∧ outS.length ≤ 2000 ∧
      ((∃ uf, rf.ok_ = true ∧ uf.bad_ = false ∧ whileE (impl_UnpackEstimates_l1 b ss os c) (u, out, time, mag, t) = some (.inl (uf, outS))) ∨
       (whileE (impl_UnpackEstimates_l1 b ss os c) (u, out, time, mag, t) = some (.inr ([], 8)) ∧ (rf.ok_ = false ∨ goodE outS = false)))
  | 0, r, u, out, time, mag, t, hr, ht, hk, hm, hm1, hm2 => by
    refine ⟨r, out, whileE_done (by simp [spec_l25List_l1]), by omega, .inl ⟨u, hr.ok, hr.good, whileE_done ?_⟩⟩
    have : ¬ t < c := by omega
    simp [impl_UnpackEstimates_l1, this]
  | k + 1, r, u, out, time, mag, t, hr, ht, hk, hm, hm1, hm2 => by
    have p : decide ((0 : Int) < ((k + 1 : Nat) : Int)) = true := decide_eq_true (by omega)
    have w : IntKind.i64.wrap (((k + 1 : Nat) : Int) - 1) = (k : Int) := by rw [wrap_i64 (by omega) (by omega)]; omega
    have p2 : decide (t < c) = true := by simp; omega
    have w2 : IntKind.i64.wrap (t + 1) = t + 1 := wrap_i64 (by omega) (by omega)
    have v1 : IntKind.i64.wrap ((ss.length : Int) - 1) = (ss.length : Int) - 1 := wrap_i64 (by omega) (by omega)
    have v2 : IntKind.i64.wrap (2 * (os.length : Int)) = 2 * (os.length : Int) := wrap_i64 (by omega) (by omega)
    have v3 : IntKind.i64.wrap (2 * (os.length : Int) - 1) = 2 * (os.length : Int) - 1 := wrap_i64 (by omega) (by omega)
    have ap : ∀ x : Estimate, appOk (out.length + ([x] : List Estimate).length) 56 = true := fun x => appOk_of (by simp; omega)
    -- the step of each, once its numbers are known
    have specS : ∀ {n1 n2 n3 n4 m : Int} {r1 r2 r3 r4 : L25R}, spec_l25R_number r 10000000 = some (n1, r1) → spec_l25R_number r1 ((ss.length : Int) - 1) = some (n2, r2) → spec_l25R_number r2 (2 * (os.length : Int) - 1) = some (n3, r3) →
        spec_l25R_number r3 100000 = some (n4, r4) → spec_l25Unfold n4 = some m → r4.ok_ = false → spec_l25List_l1 ss os (r, out, time, mag, ((k + 1 : Nat) : Int)) = some (.inr (r4, out)) := by
      intro n1 n2 n3 n4 m r1 r2 r3 r4 e1 e2 e3 e4 em hk2
      simp only [spec_l25List_l1, p, hr.ok, Bool.and_self, if_true, e1, e2, e3, e4, em, Option.bind_some, v1, v2, v3, hk2, Bool.not_false]
    have implB : ∀ {n1 n2 n3 n4 : Int} {u1 u2 u3 u4 : Unpacker}, impl_unpacker_number u 10000000 = some (n1, u1) → impl_unpacker_number u1 ((ss.length : Int) - 1) = some (n2, u2) → impl_unpacker_number u2 (2 * (os.length : Int) - 1) = some (n3, u3) →
        impl_unpacker_number u3 44000 = some (n4, u4) → u4.bad_ = true → whileE (impl_UnpackEstimates_l1 b ss os c) (u, out, time, mag, t) = some (.inr ([], 8)) := by
      intro n1 n2 n3 n4 u1 u2 u3 u4 e1 e2 e3 e4 hk2
      obtain ⟨m, em⟩ := unfold_some n4
      refine whileE_done ?_
      simp only [impl_UnpackEstimates_l1, impl_count_string, p2, if_true, e1, e2, e3, e4, unfold_same, em, Option.bind_some, v1, v2, v3, hk2]
    -- a failure: the rest of spec is read somehow
    have off : ∀ {n1 n2 n3 n4 : Int} {r1 r2 r3 r4 : L25R}, spec_l25R_number r 10000000 = some (n1, r1) → spec_l25R_number r1 ((ss.length : Int) - 1) = some (n2, r2) → spec_l25R_number r2 (2 * (os.length : Int) - 1) = some (n3, r3) →
        spec_l25R_number r3 100000 = some (n4, r4) → r4.ok_ = false → whileE (impl_UnpackEstimates_l1 b ss os c) (u, out, time, mag, t) = some (.inr ([], 8)) →
        ∃ rf outS, whileE (spec_l25List_l1 ss os) (r, out, time, mag, ((k + 1 : Nat) : Int)) = some (rf, outS) ∧ outS.length ≤ 2000 ∧
          ((∃ uf, rf.ok_ = true ∧ uf.bad_ = false ∧ whileE (impl_UnpackEstimates_l1 b ss os c) (u, out, time, mag, t) = some (.inl (uf, outS))) ∨
           (whileE (impl_UnpackEstimates_l1 b ss os c) (u, out, time, mag, t) = some (.inr ([], 8)) ∧ (rf.ok_ = false ∨ goodE outS = false))) := by
      intro n1 n2 n3 n4 r1 r2 r3 r4 e1 e2 e3 e4 hk2 hi
      obtain ⟨m, em⟩ := unfold_some n4
      exact ⟨r4, out, whileE_done (specS e1 e2 e3 e4 em hk2), by omega, .inr ⟨hi, .inl hk2⟩⟩
    obtain ⟨n1, ok1, r1, u1, hr1, e1⟩ := num_is hb hr
    obtain ⟨s1, i1⟩ := e1 10000000
    by_cases c1 : (!ok1 || decide ((10000000 : Int) < (n1 : Int))) = true
    · rw [if_pos c1] at s1 i1
      obtain ⟨y2, q2, a2, b2, l2, x2, f2, _⟩ := num_all (r := ⟨body, r.at_, false⟩) hb hr.lo hr.hi ((ss.length : Int) - 1)
      obtain ⟨y3, q3, a3, b3, l3, x3, f3, _⟩ := num_all (r := q2) (by rw [b2]; exact hb) l2 (by rw [b2]; exact x2) (2 * (os.length : Int) - 1)
      obtain ⟨y4, q4, a4, b4, l4, x4, f4, _⟩ := num_all (r := q3) (by rw [b3, b2]; exact hb) l3 (by rw [b3]; exact x3) 100000
      exact off s1 a2 a3 a4 (f4 (f3 (f2 rfl))) (implB i1 (bad_num rfl _) (bad_num rfl _) (bad_num rfl _) rfl)
    rw [if_neg c1] at s1 i1
    obtain ⟨n2, ok2, r2, u2, hr2, e2⟩ := num_is hb hr1
    obtain ⟨s2, i2⟩ := e2 ((ss.length : Int) - 1)
    by_cases c2 : (!ok2 || decide ((ss.length : Int) - 1 < (n2 : Int))) = true
    · rw [if_pos c2] at s2 i2
      obtain ⟨y3, q3, a3, b3, l3, x3, f3, _⟩ := num_all (r := ⟨body, r1.at_, false⟩) hb hr1.lo hr1.hi (2 * (os.length : Int) - 1)
      obtain ⟨y4, q4, a4, b4, l4, x4, f4, _⟩ := num_all (r := q3) (by rw [b3]; exact hb) l3 (by rw [b3]; exact x3) 100000
      exact off s1 s2 a3 a4 (f4 (f3 rfl)) (implB i1 i2 (bad_num rfl _) (bad_num rfl _) rfl)
    rw [if_neg c2] at s2 i2
    obtain ⟨n3, ok3, r3, u3, hr3, e3⟩ := num_is hb hr2
    obtain ⟨s3, i3⟩ := e3 (2 * (os.length : Int) - 1)
    by_cases c3 : (!ok3 || decide (2 * (os.length : Int) - 1 < (n3 : Int))) = true
    · rw [if_pos c3] at s3 i3
      obtain ⟨y4, q4, a4, b4, l4, x4, f4, _⟩ := num_all (r := ⟨body, r2.at_, false⟩) hb hr2.lo hr2.hi 100000
      exact off s1 s2 s3 a4 (f4 rfl) (implB i1 i2 i3 (bad_num rfl _) rfl)
    rw [if_neg c3] at s3 i3
    obtain ⟨n4, ok4, r4, u4, hr4, e4⟩ := num_is hb hr3
    have s4 := (e4 100000).1
    have i4 := (e4 44000).2
    by_cases c4 : (!ok4 || decide ((100000 : Int) < (n4 : Int))) = true
    · rw [if_pos c4] at s4
      have c5 : (!ok4 || decide ((44000 : Int) < (n4 : Int))) = true := by
        simp only [Bool.or_eq_true, Bool.not_eq_true', decide_eq_true_eq] at c4 ⊢
        rcases c4 with h | h
        · exact .inl h
        · exact .inr (by omega)
      rw [if_pos c5] at i4
      exact off s1 s2 s3 s4 rfl (implB i1 i2 i3 i4 rfl)
    rw [if_neg c4] at s4
    simp only [Bool.or_eq_true, Bool.not_eq_true', decide_eq_true_eq, not_or, Bool.not_eq_false] at c2 c3 c4
    obtain ⟨m, em, m1, m2, m3⟩ := unfold_is (n := (n4 : Int)) (by omega) (by omega)
    have wm : IntKind.i64.wrap (mag + m) = mag + m := wrap_i64 (by omega) (by omega)
    obtain ⟨x1, x2, x3⟩ := half_ok (n := (n3 : Int)) (m := (os.length : Int)) (by omega) (by omega) (by omega)
    have hs : spec_l25List_l1 ss os (r, out, time, mag, ((k + 1 : Nat) : Int)) = some (.inl (r4, out ++ [entE ss os time n1 n2 n3 mag m], IntKind.i64.wrap (time + n1), mag + m, (k : Int))) := by
      simp only [spec_l25List_l1, p, hr.ok, Bool.and_self, if_true, s1, s2, s3, s4, em, Option.bind_some, w, v1, v2, v3, hr4.ok, Bool.not_true, Bool.false_eq_true, if_false]
      rw [ixOk_of (by omega) (by omega), ck_true, nz_of (by decide), ck_true, x1, ixOk_of x2 x3, ck_true, ap, ck_true]
      unfold entE
      rw [x1, wm]
    have hmag : (entE ss os time n1 n2 n3 mag m).Mag = mag + m := wm
    by_cases c5 : (44000 : Int) < (n4 : Int)
    · have c6 : (!ok4 || decide ((44000 : Int) < (n4 : Int))) = true := by simp [c5]
      rw [if_pos c6] at i4
      rw [whileE_next hs]
      obtain ⟨rf, ext, q1, q2, q3⟩ := spec_loopE ss os h1 h2 k r4 (out ++ [entE ss os time n1 n2 n3 mag m]) (IntKind.i64.wrap (time + n1)) (mag + m) (by rw [hr4.b]; exact hb) hr4.lo (by rw [hr4.b]; exact hr4.hi) (by simp; omega)
      refine ⟨rf, _, q1, by simp; omega, .inr ⟨implB i1 i2 i3 i4 rfl, .inr (spoiltE_good (spoiltE_app (spoiltE_jump ?_)))⟩⟩
      rw [hmag, ← hm]
      have := m3 c5
      omega
    · have c6 : ¬ (!ok4 || decide ((44000 : Int) < (n4 : Int))) = true := by simp [c5, c4.1]
      rw [if_neg c6] at i4
      have hi : impl_UnpackEstimates_l1 b ss os c (u, out, time, mag, t) = some (.inl (u4, out ++ [entE ss os time n1 n2 n3 mag m], IntKind.i64.wrap (time + n1), mag + m, t + 1)) := by
        simp only [impl_UnpackEstimates_l1, impl_count_string, p2, if_true, i1, i2, i3, i4, unfold_same, em, Option.bind_some, w2, v1, v2, v3, hr4.good, Bool.false_eq_true, if_false]
        rw [ixOk_of (by omega) (by omega), ck_true, nz_of (by decide), ck_true, x1, ixOk_of x2 x3, ck_true, ap, ck_true]
        unfold entE
        rw [x1, wm]
      rw [whileE_next hs, whileE_next hi]
      exact both_loopE b hb h1 h2 c hc k r4 u4 (out ++ [entE ss os time n1 n2 n3 mag m]) (IntKind.i64.wrap (time + n1)) (mag + m) (t + 1) hr4 (by simp; omega) (by omega) (by rw [lastE_app, hmag]) (by omega) (by omega)
end

theorem list_off (ss os : List Bs) (r : L25R) (ho : r.ok_ = false) : whileE (spec_l25List_l2 ss os) (r, [], 0, 0, 0) = some (r, []) := whileE_done (by simp [spec_l25List_l2])

theorem impl_empty : ∃ l, impl_PackEstimates [] = some (l, 0) := by
  have h := Pack_is (l := []) (by simp)
  rw [if_pos (by rfl)] at h
  obtain ⟨l, _, _, h3⟩ := h
  exact ⟨l, h3⟩

theorem UnpackEstimates_same {b : List UInt8} (hl : b.length ≤ 1048576) : ∃ l k, l.length ≤ 2000 ∧ spec_UnpackEstimates b = some (l, k) ∧ impl_UnpackEstimates b = some (l, k) := by
  unfold spec_UnpackEstimates impl_UnpackEstimates
  obtain ⟨q, q1, q2, q3⟩ := check_sameE hl
  rw [q1, q2]
  simp only [Option.bind_some]
  by_cases hq : q = 0
  · obtain ⟨l3, l8⟩ := q3 hq
    subst hq
    have w : IntKind.i64.wrap ((b.length : Int) - 2) = (b.length : Int) - 2 := wrap_i64 (by omega) (by omega)
    have k1 : cutOk 0 ((b.length : Int) - 2) b.length = true := cutOk_of (by omega) (by omega) (by omega)
    have k2 : cutOk 1 ((b.length : Int) - 2) b.length = true := cutOk_of (by omega) (by omega) (by omega)
    simp only [beq_self_eq_true, Bool.not_true, Bool.false_eq_true, if_false, w, k1, k2, ck_true]
    have hbody : (cut b 0 ((b.length : Int) - 2)).length = b.length - 2 := by simp only [cut, List.length_drop, List.length_take]; omega
    have hrel : Rel (cut b 0 ((b.length : Int) - 2)) ⟨cut b 0 ((b.length : Int) - 2), 1, true⟩ ⟨cut b 1 ((b.length : Int) - 2), false⟩ := by
      refine ⟨rfl, by show (0 : Int) ≤ 1; omega, by show (1 : Int) ≤ _; rw [hbody]; omega, rfl, ?_, rfl⟩
      simp [cut]
    generalize cut b 0 ((b.length : Int) - 2) = body at hrel hbody
    generalize cut b 1 ((b.length : Int) - 2) = rest at hrel
    have hb2 : body.length ≤ 1048576 := by omega
    obtain ⟨pe, hpe⟩ := impl_empty
    have specOff : ∀ r : L25R, r.ok_ = false → ∀ ss os : List Bs, ∃ r' : L25R, r'.ok_ = false ∧ (if r.ok_ then (spec_l25R_number r 100).bind fun y_4 => (whileE (spec_l25List_l1 ss os) (y_4.2, ([] : List Estimate), 0, 0, y_4.1)).bind fun y_16 => some (y_16.2, y_16.1.ok_, y_16.1)
        else (whileE (spec_l25List_l2 ss os) (r, ([] : List Estimate), 0, 0, 0)).bind fun y_28 => some (y_28.2, y_28.1.ok_, y_28.1)) = some (([] : List Estimate), false, r') := by
      intro r hr ss os
      refine ⟨r, hr, ?_⟩
      rw [hr, list_off ss os r hr]
      simp [hr]
    unfold spec_l25List
    obtain ⟨ss, r1, a1, a2, a3⟩ := names_is hb2 hrel
    rw [a1]
    simp only [Option.bind_some]
    rcases a3 with ⟨u1, hr1, a3⟩ | ⟨f1, f2, f3, f4, u1, a3, a4⟩
    · rw [a3]
      simp only [Option.bind_some]
      obtain ⟨os, r2, b1, b2, b3⟩ := names_is hb2 hr1
      rw [b1]
      simp only [Option.bind_some]
      rcases b3 with ⟨u2, hr2, b3⟩ | ⟨g1, g2, g3, g4, u2, b3, b4⟩
      · rw [b3]
        simp only [Option.bind_some, hr2.ok, if_true]
        obtain ⟨n0, ok0, r0, u0, hr0, e0⟩ := num_is hb2 hr2
        obtain ⟨s0, i0⟩ := e0 100
        rw [s0, i0]
        simp only [Option.bind_some]
        by_cases c0 : (!ok0 || decide ((100 : Int) < (n0 : Int))) = true
        · rw [if_pos c0, if_pos c0]
          simp only
          rw [whileE_done (r := (⟨body, r2.at_, false⟩, [])) (by simp [spec_l25List_l1]), whileE_done (r := .inl (⟨u2.rest_, true⟩, [])) (by simp [impl_UnpackEstimates_l1])]
          simp only [Option.bind_some, hpe, bytes_Equal, Bool.true_or, Bool.not_true, Bool.not_false, Option.isSome_some, Bool.or_true, Bool.false_or, ck_true, if_true]
          exact ⟨[], 8, by simp, rfl, rfl⟩
        · rw [if_neg c0, if_neg c0]
          simp only [Bool.or_eq_true, Bool.not_eq_true', decide_eq_true_eq, not_or, Bool.not_eq_false] at c0
          simp only
          obtain ⟨rf, oS, v1, v2, v3⟩ := both_loopE ss os b hb2 (by omega) (by omega) (n0 : Int) (by omega) n0 r0 u0 [] 0 0 0 hr0 rfl (by omega) rfl (by omega) (by omega)
          rw [v1]
          simp only [Option.bind_some]
          have hk := l06Ok_is (l := oS) (by omega)
          have hcu := Pack_is (l := oS) (by omega)
          rcases v3 with ⟨uf, o1, o2, v4⟩ | ⟨v4, o2⟩
          · rw [v4, hk]
            simp only [Option.bind_some]
            cases hg : (goodE oS && decide (oS.length ≤ 100))
            · rw [hg, if_neg Bool.false_ne_true] at hcu
              rw [hcu]
              simp only [o1, o2, Option.bind_some, Bool.not_true, Bool.not_false, Bool.or_true, Bool.true_or, Bool.false_or, Option.isSome_some, Option.getD_some, ck_true, bytes_Equal, if_true]
              exact ⟨[], 8, by simp, rfl, by simp⟩
            · rw [hg, if_pos rfl] at hcu
              obtain ⟨cu, _, c1, c2⟩ := hcu
              rw [c2, c1]
              simp only [o1, o2, Option.bind_some, Option.isSome_some, Option.getD_some, Bool.or_true, ck_true, Bool.not_true, Bool.false_or, beq_self_eq_true, bytes_Equal]
              cases (cu == b)
              · exact ⟨[], 8, by simp, rfl, rfl⟩
              · exact ⟨oS, 0, v2, rfl, rfl⟩
          · rw [v4]
            simp only [Option.bind_some]
            refine ⟨[], 8, by simp, ?_, rfl⟩
            rcases o2 with o2 | o2
            · simp [o2, ck_true]
            · rw [hk, o2]
              simp [ck_true]
      · rw [b3]
        simp only [Option.bind_some]
        obtain ⟨r', h', e'⟩ := specOff r2 g1 ss os
        rw [e', bad_num b4]
        simp only [Option.bind_some]
        rw [whileE_done (r := .inl (⟨u2.rest_, true⟩, [])) (by simp [impl_UnpackEstimates_l1])]
        simp only [Option.bind_some, hpe, bytes_Equal, Option.isSome_some, Bool.or_true, Bool.not_false, Bool.not_true, Bool.false_or, Bool.true_or, ck_true, if_true]
        exact ⟨[], 8, by simp, rfl, rfl⟩
    · obtain ⟨r2, b1, b2⟩ := names_off (by rw [f2]; exact hb2) f3 (by rw [f2]; exact f4) f1
      rw [a3, b1]
      simp only [Option.bind_some]
      rw [names_bad a4]
      simp only [Option.bind_some]
      obtain ⟨r', h', e'⟩ := specOff r2 b2 ss []
      rw [e', bad_num rfl]
      simp only [Option.bind_some]
      rw [whileE_done (r := .inl (⟨u1.rest_, true⟩, [])) (by simp [impl_UnpackEstimates_l1])]
      simp only [Option.bind_some, hpe, bytes_Equal, Option.isSome_some, Bool.or_true, Bool.not_false, Bool.not_true, Bool.false_or, Bool.true_or, ck_true, if_true]
      exact ⟨[], 8, by simp, rfl, rfl⟩
  · have h : (!(q == 0)) = true := by simpa using hq
    simp only [h, if_true]
    exact ⟨[], q, by simp, rfl, rfl⟩

end Go.Proofs.YtpjpfdoaemoddaaGreat

