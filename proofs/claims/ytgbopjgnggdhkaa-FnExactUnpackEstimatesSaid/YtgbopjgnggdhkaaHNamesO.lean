/- What typed forms say: the names of the observers. No condition. -/
import Derived.Test.YtgbopjgnggdhkaaHNames
namespace Go.Proofs.Ytgbopjgnggdhkaa
open Go Go.RowKit
set_option linter.unusedSimpArgs false
set_option linter.unusedVariables false

/-! ### Where a name stands -/

theorem find_is {l : List Bs} (hl : l.length ≤ 100000) (hs : Strict l) {i : Nat} (hi : i < l.length) : spec_l25Find l l[i] = some (i : Int) := by
  unfold spec_l25Find
  rw [while_find (step := spec_l25Find_l1 l l[i]) (fun k => l.getD k default == l[i]) (fun k => (k : Int)) l.length
    (fun k hk => by
      simp only [spec_l25Find_l1, ixOk_nat, hk, decide_true, ck_true, Int.ofNat_lt, if_true, Int.toNat_natCast, wrap_nat1 (show k < 9223372036854775807 by omega)]
      cases (l.getD k default == l[i]) <;> rfl)
    (by simp [spec_l25Find_l1])]
  have : (List.range l.length).find? (fun k => l.getD k default == l[i]) = some i := by
    rw [List.find?_range_eq_some]
    refine ⟨by rw [getD_lt hi]; simp, by simpa using hi, fun j hj => ?_⟩
    rw [getD_lt (show j < l.length by omega)]
    have h := List.pairwise_iff_getElem.1 hs j i (by omega) hi hj
    have hne : l[j] ≠ l[i] := fun e => by rw [e] at h; exact lt_irr _ h
    simpa using hne
  rw [this]; rfl

/-! ### The names of the observers -/

def obsL (l : List Estimate) : List Bs := l.map (·.Observer)

theorem obs_names {l : List Estimate} (hl : l.length ≤ 10000) : ∃ ns, spec_l25Names l false = some ns ∧ impl_namesOf__impl_observerOf l = some ns ∧ Strict ns ∧ ns.length ≤ l.length ∧ ∀ x, x ∈ ns ↔ x ∈ obsL l := by
  obtain ⟨ns, h1, h2, h3, h4⟩ : ∃ ns, spec_l25Names l false = some ns ∧ Strict ns ∧ ns.length ≤ l.length ∧ ∀ x, x ∈ ns ↔ x ∈ obsL l := by
    unfold spec_l25Names
    obtain ⟨y, hy, hq⟩ := while_post (step := spec_l25Names_l1 l false) (fun s => ∃ i : Nat, s.2 = (i : Int) ∧ i ≤ l.length ∧ Strict s.1 ∧ s.1.length ≤ i ∧ ∀ x, x ∈ s.1 ↔ x ∈ obsL (l.take i))
      (fun y => Strict y ∧ y.length ≤ l.length ∧ ∀ x, x ∈ y ↔ x ∈ obsL l) (fun s => l.length - s.2.toNat) (by
      rintro ⟨out, ii⟩ ⟨i, rfl, hi, hs, hlen, hm⟩
      simp only at hs hlen hm
      by_cases h : i < l.length
      · left
        obtain ⟨l', e, p1, p2, p3⟩ := putName_is (l := out) (by omega) hs (l.getD i default).Observer
        simp only [spec_l25Names_l1, ixOk_nat, h, decide_true, ck_true, Int.ofNat_lt, if_true, Bool.false_eq_true, if_false, Int.toNat_natCast, wrap_nat1 (show i < 9223372036854775807 by omega), e, Option.bind_some]
        refine ⟨_, rfl, ⟨i + 1, rfl, by omega, p1, by show l'.length ≤ i + 1; omega, fun x => ?_⟩, by simp only [Int.toNat_natCast]; omega⟩
        show x ∈ l' ↔ _
        rw [p3, hm, List.take_add_one, List.getElem?_eq_getElem h, getD_lt h]
        simp only [obsL, List.map_append, List.mem_append, Option.toList_some, List.map_cons, List.map_nil, List.mem_singleton]
        exact Or.comm
      · right
        obtain rfl : i = l.length := by omega
        rw [List.take_length] at hm
        exact ⟨out, by simp [spec_l25Names_l1], hs, hlen, hm⟩) (s := ([], 0)) ⟨0, rfl, by omega, List.Pairwise.nil, by simp, fun x => by simp [obsL]⟩
    rw [hy]
    exact ⟨y, rfl, hq⟩
  refine ⟨ns, h1, ?_, h2, h3, h4⟩
  unfold impl_namesOf__impl_observerOf
  have hw : whileE (impl_namesOf__impl_observerOf_l1 l (l.length : Int)) (([] : List Bs), 0) = some (obsL l) := by
    have := while_up (step := impl_namesOf__impl_observerOf_l1 l (l.length : Int)) (fun i => obsL (l.take i)) l.length (r := obsL l) (fun i hi => by
      have e1 : (obsL (l.take i)).length ≤ i := by simp [obsL]; omega
      simp only [impl_namesOf__impl_observerOf_l1, impl_observerOf, ixOk_nat, hi, decide_true, ck_true, Int.ofNat_lt, if_true, Int.toNat_natCast, wrap_nat1 (show i < 9223372036854775807 by omega), Option.bind_some]
      rw [appOk_of (by simp; omega), ck_true, List.take_add_one, List.getElem?_eq_getElem hi, getD_lt hi]
      simp only [obsL, List.map_append, Option.toList_some, List.map_cons, List.map_nil]) (by rw [List.take_length]; simp [impl_namesOf__impl_observerOf_l1])
    simpa [obsL] using this
  rw [hw]
  have l1 : (obsL l).length = l.length := by simp [obsL]
  simp only [Option.bind_some]
  unfold hSort
  rw [if_pos (by omega)]
  simp only [Option.bind_some]
  unfold hCompact
  rw [if_pos (by rw [sortS_len]; omega)]
  simp only [Option.bind_some, Option.some.injEq]
  refine strict_unique (compS_strict (sortS_le _)) h2 fun x => ?_
  rw [compS_mem, sortS_mem, h4]

end Go.Proofs.Ytgbopjgnggdhkaa
