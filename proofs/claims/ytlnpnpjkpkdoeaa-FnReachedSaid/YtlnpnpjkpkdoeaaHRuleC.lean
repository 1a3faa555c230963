/- What typed forms say: the corners of rules, ascending. No condition. -/
import Derived.Test.YtlnpnpjkpkdoeaaHRule
namespace Go.Proofs.Ytlnpnpjkpkdoeaa
open Go Go.RowKit
set_option linter.unusedSimpArgs false
set_option linter.unusedVariables false

def UpI (l : List Int) : Prop := l.Pairwise (· < ·)

theorem upI_unique : ∀ {l1 l2 : List Int}, UpI l1 → UpI l2 → (∀ x, x ∈ l1 ↔ x ∈ l2) → l1 = l2
  | [], [], _, _, _ => rfl
  | [], b :: l2, _, _, h => absurd ((h b).2 (by simp)) (by simp)
  | a :: l1, [], _, _, h => absurd ((h a).1 (by simp)) (by simp)
  | a :: l1, b :: l2, h1, h2, h => by
    obtain ⟨p1, q1⟩ := List.pairwise_cons.1 h1
    obtain ⟨p2, q2⟩ := List.pairwise_cons.1 h2
    have hab : a = b := by
      rcases List.mem_cons.1 ((h a).1 (by simp)) with e | e
      · exact e
      · rcases List.mem_cons.1 ((h b).2 (by simp)) with e2 | e2
        · exact e2.symm
        · have := p1 b e2; have := p2 a e; omega
    subst hab
    congr 1
    refine upI_unique q1 q2 fun x => ⟨fun hx => ?_, fun hx => ?_⟩
    · rcases List.mem_cons.1 ((h x).1 (by simp [hx])) with e | e
      · subst e; have := p1 _ hx; omega
      · exact e
    · rcases List.mem_cons.1 ((h x).2 (by simp [hx])) with e | e
      · subst e; have := p2 _ hx; omega
      · exact e

theorem sortI_mem (l : List Int) (x : Int) : x ∈ sortI l ↔ x ∈ l := by unfold sortI; exact List.mem_mergeSort
theorem sortI_len (l : List Int) : (sortI l).length = l.length := by unfold sortI; exact List.length_mergeSort _
theorem sortI_le (l : List Int) : (sortI l).Pairwise (· ≤ ·) := by
  unfold sortI
  have := List.pairwise_mergeSort (le := fun x y : Int => decide (x ≤ y)) (fun a b c h1 h2 => by
    simp only [decide_eq_true_eq] at h1 h2 ⊢; omega) (fun a b => by
    rcases Int.le_total a b with h | h <;> simp [h]) l
  exact this.imp fun h => by simpa using h

theorem compI_mem {l : List Int} (x : Int) : x ∈ compI l ↔ x ∈ l := by
  unfold compI Lib.compact Lib.compactUpTo
  simp only [List.mem_map, List.mem_filter, List.mem_range]
  have hget : ∀ i (h : i < l.length), l.toArray[i]! = l[i] := fun i h => by rw [getElem!_pos _ i (by simpa using h)]; simp
  constructor
  · rintro ⟨i, ⟨hi, _⟩, e⟩
    rw [hget i hi] at e
    rw [← e]; exact List.getElem_mem hi
  · intro hx
    obtain ⟨i, hi, rfl⟩ := List.getElem_of_mem hx
    clear hx
    induction i with
    | zero => exact ⟨0, ⟨hi, by simp [Lib.keeps]⟩, hget 0 hi⟩
    | succ i ih =>
      by_cases c : Lib.keeps l.toArray (i + 1) = true
      · exact ⟨i + 1, ⟨hi, c⟩, hget _ hi⟩
      · have : l[i + 1] = l[i] := by
          unfold Lib.keeps at c
          simp only [decide_eq_true_eq, not_or] at c
          have h2 := c.2
          rw [hget _ hi, show i + 1 - 1 = i by omega, hget i (by omega)] at h2
          exact Classical.byContradiction h2
        rw [this]
        exact ih (by omega)

theorem compI_up {l : List Int} (h : l.Pairwise (· ≤ ·)) : UpI (compI l) := by
  unfold UpI compI Lib.compact Lib.compactUpTo
  have hget : ∀ i (h : i < l.length), l.toArray[i]! = l[i] := fun i h => by rw [getElem!_pos _ i (by simpa using h)]; simp
  have hle : ∀ i j (hi : i < l.length) (hj : j < l.length), i ≤ j → l[i] ≤ l[j] := fun i j hi hj hij => by
    rcases Nat.lt_or_ge i j with c | c
    · exact List.pairwise_iff_getElem.1 h i j hi hj c
    · have : i = j := by omega
      subst this; omega
  rw [List.pairwise_map]
  refine List.Pairwise.imp_of_mem (R := (· < ·)) (fun {a b} ha hb hab => ?_) (List.pairwise_lt_range.filter _)
  have hb1 := (List.mem_filter.1 hb)
  have hbl : b < l.length := by simpa using hb1.1
  have hk := hb1.2
  unfold Lib.keeps at hk
  simp only [decide_eq_true_eq] at hk
  rcases hk with e | e
  · omega
  · rw [hget _ hbl, hget (b - 1) (by omega)] at e
    rw [hget a (by omega), hget b hbl]
    have h1 := hle a (b - 1) (by omega) (by omega) (by omega)
    have h2 := hle (b - 1) b (by omega) hbl (by omega)
    omega

/-! ### The corners -/

def rawC (g : Rule → Int × Int) (l : List Rule) : List Int := 0 :: l.flatMap fun r => [(g r).1, (g r).2 + 1]

theorem rawC_len (g : Rule → Int × Int) (l : List Rule) : (rawC g l).length = 2 * l.length + 1 := by
  unfold rawC
  induction l with
  | nil => rfl
  | cons a r ih => simp only [List.flatMap_cons, List.length_cons, List.length_append, List.length_nil] at ih ⊢; omega

theorem rawC_mem {g : Rule → Int × Int} {l : List Rule} {x : Int} : x ∈ rawC g l ↔ x = 0 ∨ ∃ r ∈ l, x = (g r).1 ∨ x = (g r).2 + 1 := by
  unfold rawC
  simp only [List.mem_cons, List.mem_flatMap, List.not_mem_nil, or_false]

theorem rawC_succ (g : Rule → Int × Int) (l : List Rule) {i : Nat} (h : i < l.length) : rawC g (l.take (i + 1)) = rawC g (l.take i) ++ [(g (l.getD i default)).1, (g (l.getD i default)).2 + 1] := by
  have e : l.take (i + 1) = l.take i ++ [l.getD i default] := by rw [List.take_add_one, List.getElem?_eq_getElem h, getD_lt h]; rfl
  unfold rawC
  rw [e, List.flatMap_append, List.cons_append]; rfl

def cornC (g : Rule → Int × Int) (most : Int) (l : List Rule) : List Int := compI (sortI ((rawC g l).filter fun x => decide (x ≤ most)))

theorem cornC_up (g : Rule → Int × Int) (most : Int) (l : List Rule) : UpI (cornC g most l) := compI_up (sortI_le _)
theorem cornC_mem {g : Rule → Int × Int} {most : Int} {l : List Rule} {x : Int} : x ∈ cornC g most l ↔ x ∈ rawC g l ∧ x ≤ most := by
  unfold cornC
  rw [compI_mem, sortI_mem, List.mem_filter, decide_eq_true_eq]

theorem chosen_is {l : List Int} (hl : l.length ≤ 1000000) (most : Int) : impl_chosen_int64__impl_corners_c1 l most = some (l.filter fun x => decide (x ≤ most)) := by
  unfold impl_chosen_int64__impl_corners_c1
  have := while_up (step := impl_chosen_int64__impl_corners_c1_l1 most l (l.length : Int)) (fun i => (l.take i).filter fun x => decide (x ≤ most)) l.length (r := l.filter fun x => decide (x ≤ most)) (fun i hi => by
    have e1 : ((l.take i).filter fun x => decide (x ≤ most)).length ≤ i := by
      refine Nat.le_trans (List.length_filter_le _ _) ?_
      simp
      omega
    simp only [impl_chosen_int64__impl_corners_c1_l1, impl_corners_c1, ixOk_nat, hi, decide_true, ck_true, Int.ofNat_lt, if_true, Int.toNat_natCast, wrap_nat1 (show i < 9223372036854775807 by omega), Option.bind_some]
    have e : l.take (i + 1) = l.take i ++ [l.getD i default] := by rw [List.take_add_one, List.getElem?_eq_getElem hi, getD_lt hi]; rfl
    rw [appOk_of (by simp; omega), ck_true, e, List.filter_append]
    by_cases c : l.getD i default ≤ most
    · rw [if_pos (decide_eq_true c)]
      simp only [List.filter_cons, decide_eq_true c, if_true, List.filter_nil]
    · rw [if_neg (by rw [decide_eq_false c]; exact Bool.false_ne_true)]
      simp only [List.filter_cons, decide_eq_false c, Bool.false_eq_true, if_false, List.filter_nil, List.append_nil]) (by rw [List.take_length]; simp [impl_chosen_int64__impl_corners_c1_l1])
  simp only [List.take_zero, List.filter_nil] at this
  rw [this]; rfl

theorem sorted_is {l : List Int} (hl : l.length ≤ 1000000) : ((hSortI l).bind fun y => (hCompactI y).bind fun z => some z) = some (compI (sortI l)) := by
  unfold hSortI hCompactI
  rw [if_pos (by omega), Option.bind_some, if_pos (by rw [sortI_len]; omega)]; rfl

def gAmp (r : Rule) : Int × Int := (r.FromAmp, r.ToAmp)
def gPer (r : Rule) : Int × Int := (r.FromPer, r.ToPer)

theorem cornersA_is {l : List Rule} (hl : l.length ≤ 1000) (h : ∀ r ∈ l, InRu r) : impl_corners__impl_factsFor_c1 l 20000 = some (cornC gAmp 20000 l) := by
  unfold impl_corners__impl_factsFor_c1
  have hw : whileE (impl_corners__impl_factsFor_c1_l1 20000 l (l.length : Int)) (([0] : List Int), 0) = some (rawC gAmp l) := by
    have := while_up (step := impl_corners__impl_factsFor_c1_l1 20000 l (l.length : Int)) (fun i => rawC gAmp (l.take i)) l.length (r := rawC gAmp l) (fun i hi => by
      have hr := h _ (getD_mem hi default)
      have w : IntKind.i64.wrap ((l.getD i default).ToAmp + 1) = (l.getD i default).ToAmp + 1 := wrap_i64 (by have := hr.a0; have := hr.a1; omega) (by have := hr.a2; omega)
      have e1 : (rawC gAmp (l.take i)).length ≤ 2 * i + 1 := by rw [rawC_len, List.length_take]; omega
      simp only [impl_corners__impl_factsFor_c1_l1, impl_factsFor_c1, ixOk_nat, hi, decide_true, ck_true, Int.ofNat_lt, if_true, Int.toNat_natCast, wrap_nat1 (show i < 9223372036854775807 by omega), Option.bind_some, w]
      rw [appOk_of (by simp; omega), ck_true, rawC_succ gAmp l hi]; rfl) (by rw [List.take_length]; simp [impl_corners__impl_factsFor_c1_l1])
    simpa [rawC] using this
  have hlen : (rawC gAmp l).length ≤ 10000 := by rw [rawC_len]; omega
  rw [hw, Option.bind_some, chosen_is (by omega), Option.bind_some]
  exact sorted_is (Nat.le_trans (List.length_filter_le _ _) (by omega))

theorem cornersP_is {l : List Rule} (hl : l.length ≤ 1000) (h : ∀ r ∈ l, InRu r) : impl_corners__impl_factsFor_c2 l 1000000 = some (cornC gPer 1000000 l) := by
  unfold impl_corners__impl_factsFor_c2
  have hw : whileE (impl_corners__impl_factsFor_c2_l1 1000000 l (l.length : Int)) (([0] : List Int), 0) = some (rawC gPer l) := by
    have := while_up (step := impl_corners__impl_factsFor_c2_l1 1000000 l (l.length : Int)) (fun i => rawC gPer (l.take i)) l.length (r := rawC gPer l) (fun i hi => by
      have hr := h _ (getD_mem hi default)
      have w : IntKind.i64.wrap ((l.getD i default).ToPer + 1) = (l.getD i default).ToPer + 1 := wrap_i64 (by have := hr.p0; have := hr.p1; omega) (by have := hr.p2; omega)
      have e1 : (rawC gPer (l.take i)).length ≤ 2 * i + 1 := by rw [rawC_len, List.length_take]; omega
      simp only [impl_corners__impl_factsFor_c2_l1, impl_factsFor_c2, ixOk_nat, hi, decide_true, ck_true, Int.ofNat_lt, if_true, Int.toNat_natCast, wrap_nat1 (show i < 9223372036854775807 by omega), Option.bind_some, w]
      rw [appOk_of (by simp; omega), ck_true, rawC_succ gPer l hi]; rfl) (by rw [List.take_length]; simp [impl_corners__impl_factsFor_c2_l1])
    simpa [rawC] using this
  have hlen : (rawC gPer l).length ≤ 10000 := by rw [rawC_len]; omega
  rw [hw, Option.bind_some, chosen_is (by omega), Option.bind_some]
  exact sorted_is (Nat.le_trans (List.length_filter_le _ _) (by omega))

/-! ### A number is put to its place -/

theorem put_is {l : List Int} (hl : l.length ≤ 100000) (hs : UpI l) (n : Int) : ∃ l', spec_l00Put l n = some l' ∧ UpI l' ∧ l'.length ≤ l.length + 1 ∧ ∀ x, x ∈ l' ↔ x = n ∨ x ∈ l := by
  unfold spec_l00Put
  have hpair := List.pairwise_iff_getElem.1 hs
  obtain ⟨y, hy, hq⟩ := while_post (step := spec_l00Put_l1 l n) (fun s => ∃ i : Nat, s.2.2 = (i : Int) ∧ i ≤ l.length ∧ UpI s.1 ∧ s.1.length ≤ i + 1 ∧
      (s.2.1 = false → s.1.length ≤ i ∧ (∀ x, x ∈ s.1 ↔ x ∈ l.take i) ∧ ∀ x ∈ l.take i, x < n) ∧ (s.2.1 = true → (∀ x, x ∈ s.1 ↔ x = n ∨ x ∈ l.take i) ∧ ∀ x ∈ l.drop i, n < x))
    (fun y => UpI y.1 ∧ y.1.length ≤ l.length + 1 ∧ (y.2 = false → y.1.length ≤ l.length ∧ (∀ x, x ∈ y.1 ↔ x ∈ l) ∧ ∀ x ∈ l, x < n) ∧ (y.2 = true → ∀ x, x ∈ y.1 ↔ x = n ∨ x ∈ l)) (fun s => l.length - s.2.2.toNat) (by
    rintro ⟨out, done, ii⟩ ⟨i, rfl, hi, hu, hlen, hf, ht⟩
    simp only at hu hlen hf ht
    by_cases h : i < l.length
    · left
      have etake : ∀ x, x ∈ l.take (i + 1) ↔ x ∈ l.take i ∨ x = l[i] := fun x => by
        rw [List.take_add_one, List.getElem?_eq_getElem h, List.mem_append]
        show _ ∨ x ∈ [l[i]] ↔ _
        rw [List.mem_singleton]
      have edrop : l.drop i = l[i] :: l.drop (i + 1) := List.drop_eq_getElem_cons h
      have hlast : ∀ x ∈ l.take i, x < l[i] := fun x hx => by
        obtain ⟨j, hj, rfl⟩ := List.getElem_of_mem hx
        rw [List.getElem_take]
        exact hpair j i (by simp at hj; omega) h (by simp at hj; omega)
      have hnext : ∀ x ∈ l.drop (i + 1), l[i] < x := fun x hx => by
        obtain ⟨j, hj, rfl⟩ := List.getElem_of_mem hx
        rw [List.getElem_drop]
        exact hpair i (i + 1 + j) h (by simp at hj; omega) (by omega)
      have upapp : ∀ {a : List Int} {z : Int}, UpI a → (∀ x ∈ a, x < z) → UpI (a ++ [z]) := fun ha hz => by
        unfold UpI
        rw [List.pairwise_append]
        exact ⟨ha, by simp, fun x hx y hy => by rw [List.mem_singleton.1 hy]; exact hz x hx⟩
      simp only [spec_l00Put_l1, ixOk_nat, h, decide_true, ck_true, Int.ofNat_lt, if_true, Int.toNat_natCast, Bool.or_true, wrap_nat1 (show i < 9223372036854775807 by omega), getD_lt h]
      cases done
      · obtain ⟨f1, f2, f3⟩ := hf rfl
        by_cases c1 : n ≤ l[i]
        · rw [if_pos (by simp [c1])]
          by_cases c2 : n < l[i]
          · rw [if_pos (by simpa using c2), appOk_of (by simp; omega), ck_true, appOk_of (by simp; omega), ck_true]
            refine ⟨_, rfl, ⟨i + 1, rfl, by omega, ?_, by simp only [List.length_append, List.length_cons, List.length_nil]; omega, fun e => Bool.noConfusion e, fun _ => ⟨fun x => ?_, fun x hx => ?_⟩⟩, by simp only [Int.toNat_natCast]; omega⟩
            · refine upapp (upapp hu fun x hx => f3 x ((f2 x).1 hx)) fun x hx => ?_
              rcases List.mem_append.1 hx with a | a
              · exact hlast x ((f2 x).1 a)
              · rw [List.mem_singleton.1 a]; exact c2
            · show x ∈ (out ++ [n]) ++ [l[i]] ↔ _
              rw [List.mem_append, List.mem_append, List.mem_singleton, List.mem_singleton, f2, etake]
              constructor
              · rintro ((a | a) | a)
                · exact .inr (.inl a)
                · exact .inl a
                · exact .inr (.inr a)
              · rintro (a | a | a)
                · exact .inl (.inr a)
                · exact .inl (.inl a)
                · exact .inr a
            · have := hnext x hx; omega
          · have ce : n = l[i] := by omega
            rw [if_neg (by simpa using c2), appOk_of (by simp; omega), ck_true]
            refine ⟨_, rfl, ⟨i + 1, rfl, by omega, upapp hu fun x hx => hlast x ((f2 x).1 hx), by simp only [List.length_append, List.length_cons, List.length_nil]; omega, fun e => Bool.noConfusion e, fun _ => ⟨fun x => ?_, fun x hx => ?_⟩⟩, by simp only [Int.toNat_natCast]; omega⟩
            · show x ∈ out ++ [l[i]] ↔ _
              rw [List.mem_append, List.mem_singleton, f2, etake, ce]
              constructor
              · rintro (a | a)
                · exact .inr (.inl a)
                · exact .inl a
              · rintro (a | a | a)
                · exact .inr a
                · exact .inl a
                · exact .inr a
            · have := hnext x hx; omega
        · rw [if_neg (by simp [c1]), appOk_of (by simp; omega), ck_true]
          refine ⟨_, rfl, ⟨i + 1, rfl, by omega, upapp hu fun x hx => hlast x ((f2 x).1 hx), by simp only [List.length_append, List.length_cons, List.length_nil]; omega, fun _ => ⟨by simp only [List.length_append, List.length_cons, List.length_nil]; omega, fun x => ?_, fun x hx => ?_⟩, fun e => Bool.noConfusion e⟩, by simp only [Int.toNat_natCast]; omega⟩
          · show x ∈ out ++ [l[i]] ↔ _
            rw [List.mem_append, List.mem_singleton, f2, etake]
          · rcases (etake x).1 hx with a | a
            · exact f3 x a
            · omega
      · obtain ⟨t1, t2⟩ := ht rfl
        have hn : n < l[i] := t2 _ (by rw [edrop]; exact List.mem_cons_self)
        rw [if_neg (by simp), appOk_of (by simp; omega), ck_true]
        refine ⟨_, rfl, ⟨i + 1, rfl, by omega, upapp hu fun x hx => ?_, by simp only [List.length_append, List.length_cons, List.length_nil]; omega, fun e => Bool.noConfusion e, fun _ => ⟨fun x => ?_, fun x hx => t2 x (by rw [edrop]; exact List.mem_cons_of_mem _ hx)⟩⟩, by simp only [Int.toNat_natCast]; omega⟩
        · rcases (t1 x).1 hx with a | a
          · rw [a]; exact hn
          · exact hlast x a
        · show x ∈ out ++ [l[i]] ↔ _
          rw [List.mem_append, List.mem_singleton, t1, etake, or_assoc]
    · right
      obtain rfl : i = l.length := by omega
      rw [List.take_length] at hf ht
      exact ⟨(out, done), by simp [spec_l00Put_l1], hu, hlen, hf, fun e => (ht e).1⟩) (s := (([] : List Int), false, 0)) ⟨0, rfl, by omega, List.Pairwise.nil, by simp, fun _ => ⟨by simp, by simp, by simp⟩, fun e => Bool.noConfusion e⟩
  obtain ⟨q0, q1, q2, q3⟩ := hq
  rw [hy, Option.bind_some]
  cases hd : y.2
  · obtain ⟨a, b, c⟩ := q2 hd
    simp only [Bool.not_false, if_true]
    rw [appOk_of (by simp; omega), ck_true]
    refine ⟨_, rfl, ?_, by simp; omega, fun x => ?_⟩
    · unfold UpI
      rw [List.pairwise_append]
      exact ⟨q0, by simp, fun x hx z hz => by rw [List.mem_singleton.1 hz]; exact c x ((b x).1 hx)⟩
    · rw [List.mem_append, List.mem_singleton, b]
      exact Or.comm
  · simp only [Bool.not_true, Bool.false_eq_true, if_false]
    exact ⟨_, rfl, q0, q1, q3 hd⟩

theorem puts_is {l : List Rule} (hl : l.length ≤ 1000) (h : ∀ r ∈ l, InRu r) (k : Int) (t : Facts) : ∃ as ps, whileE (spec_l18Find_l1 l k t) (([0] : List Int), ([0] : List Int), 0) = some (as, ps) ∧
    (UpI as ∧ as.length ≤ 10000 ∧ ∀ x, x ∈ as ↔ x ∈ rawC gAmp l) ∧ (UpI ps ∧ ps.length ≤ 10000 ∧ ∀ x, x ∈ ps ↔ x ∈ rawC gPer l) := by
  have step2 : ∀ {a : List Int} {i : Nat} {g : Rule → Int × Int} {r : Rule} {m : List Rule}, i ≤ 1000 → UpI a → a.length ≤ 2 * i + 1 → (∀ x, x ∈ a ↔ x ∈ rawC g m) → ∃ a1 a2, spec_l00Put a (g r).1 = some a1 ∧ spec_l00Put a1 ((g r).2 + 1) = some a2 ∧ UpI a2 ∧ a2.length ≤ 2 * (i + 1) + 1 ∧ ∀ x, x ∈ a2 ↔ x ∈ rawC g m ++ [(g r).1, (g r).2 + 1] := by
    intro a i g r m hi hu hlen hm
    obtain ⟨a1, e1, u1, n1, m1⟩ := put_is (l := a) (by omega) hu (g r).1
    obtain ⟨a2, e2, u2, n2, m2⟩ := put_is (l := a1) (by omega) u1 ((g r).2 + 1)
    refine ⟨a1, a2, e1, e2, u2, by omega, fun x => ?_⟩
    rw [m2, m1, hm, List.mem_append]
    simp only [List.mem_cons, List.not_mem_nil, or_false]
    constructor
    · rintro (q | q | q)
      · exact .inr (.inr q)
      · exact .inr (.inl q)
      · exact .inl q
    · rintro (q | q | q)
      · exact .inr (.inr q)
      · exact .inr (.inl q)
      · exact .inl q
  obtain ⟨y, hy, hq⟩ := while_post (step := spec_l18Find_l1 l k t) (fun s => ∃ i : Nat, s.2.2 = (i : Int) ∧ i ≤ l.length ∧ (UpI s.1 ∧ s.1.length ≤ 2 * i + 1 ∧ ∀ x, x ∈ s.1 ↔ x ∈ rawC gAmp (l.take i)) ∧ (UpI s.2.1 ∧ s.2.1.length ≤ 2 * i + 1 ∧ ∀ x, x ∈ s.2.1 ↔ x ∈ rawC gPer (l.take i)))
    (fun y => (UpI y.1 ∧ y.1.length ≤ 10000 ∧ ∀ x, x ∈ y.1 ↔ x ∈ rawC gAmp l) ∧ (UpI y.2 ∧ y.2.length ≤ 10000 ∧ ∀ x, x ∈ y.2 ↔ x ∈ rawC gPer l)) (fun s => l.length - s.2.2.toNat) (by
    rintro ⟨as, ps, ii⟩ ⟨i, rfl, hi, ⟨a1, a2, a3⟩, ⟨p1, p2, p3⟩⟩
    simp only at a1 a2 a3 p1 p2 p3
    by_cases c : i < l.length
    · left
      have hr := h _ (getD_mem c default)
      have w1 : IntKind.i64.wrap ((l.getD i default).ToAmp + 1) = (l.getD i default).ToAmp + 1 := wrap_i64 (by have := hr.a0; have := hr.a1; omega) (by have := hr.a2; omega)
      have w2 : IntKind.i64.wrap ((l.getD i default).ToPer + 1) = (l.getD i default).ToPer + 1 := wrap_i64 (by have := hr.p0; have := hr.p1; omega) (by have := hr.p2; omega)
      obtain ⟨b1, b2, e1, e2, u1, n1, m1⟩ := step2 (r := l.getD i default) (by omega) a1 a2 a3
      obtain ⟨c1, c2, e3, e4, u2, n2, m2⟩ := step2 (r := l.getD i default) (by omega) p1 p2 p3
      simp only [gAmp] at e1 e2
      simp only [gPer] at e3 e4
      simp only [spec_l18Find_l1, ixOk_nat, c, decide_true, ck_true, Int.ofNat_lt, if_true, Int.toNat_natCast, wrap_nat1 (show i < 9223372036854775807 by omega), w1, w2, e1, e2, e3, e4, Option.bind_some]
      refine ⟨_, rfl, ⟨i + 1, rfl, by omega, ⟨u1, n1, fun x => ?_⟩, ⟨u2, n2, fun x => ?_⟩⟩, by simp only [Int.toNat_natCast]; omega⟩
      · rw [rawC_succ gAmp l c]; exact m1 x
      · rw [rawC_succ gPer l c]; exact m2 x
    · right
      obtain rfl : i = l.length := by omega
      rw [List.take_length] at a3 p3
      exact ⟨(as, ps), by simp [spec_l18Find_l1], ⟨a1, by show as.length ≤ 10000; omega, a3⟩, ⟨p1, by show ps.length ≤ 10000; omega, p3⟩⟩) (s := (([0] : List Int), ([0] : List Int), 0)) ⟨0, rfl, by omega, ⟨by simp [UpI], by simp, by simp [rawC]⟩, ⟨by simp [UpI], by simp, by simp [rawC]⟩⟩
  exact ⟨y.1, y.2, hy, hq⟩

end Go.Proofs.Ytlnpnpjkpkdoeaa
