/- What typed forms say: the first facts for which a rule is the first one. No condition. -/
import Derived.Test.YtlnpnpjkpkdoeaaHRuleC
namespace Go.Proofs.Ytlnpnpjkpkdoeaa
open Go Go.RowKit
set_option linter.unusedSimpArgs false
set_option linter.unusedVariables false

/-! ### Plain searches -/

theorem while_some {ρ : Type} {step : Int → Option (Int ⊕ (Unit ⊕ ρ))} (g : Nat → Option ρ) (n : Nat)
    (hs : ∀ i, i < n → step (i : Int) = some (match g i with | some r => .inr (.inr r) | none => .inl ((i + 1 : Nat) : Int))) (he : step (n : Int) = some (.inr (.inl ()))) :
    whileE step 0 = some (match (List.range n).findSome? g with | some r => .inr r | none => .inl ()) := by
  have key : ∀ m i : Nat, i + m = n → (∀ k, k < i → g k = none) → whileE step (i : Int) = some (match (List.range n).findSome? g with | some r => .inr r | none => .inl ()) := by
    intro m
    induction m with
    | zero =>
      intro i hi hk
      obtain rfl : i = n := by omega
      rw [whileE_done he]
      have : (List.range i).findSome? g = none := by
        rw [List.findSome?_eq_none_iff]
        intro x hx; exact hk x (by simpa using hx)
      rw [this]
    | succ m ih =>
      intro i hi hk
      have hlt : i < n := by omega
      cases hp : g i with
      | some r =>
        rw [whileE_done (r := .inr r) (by rw [hs i hlt, hp])]
        have : (List.range n).findSome? g = some r := by
          have e : List.range n = List.range i ++ (i :: (List.range n).drop (i + 1)) := by
            have h1 : (List.range n).take i = List.range i := by rw [List.take_range]; congr 1; omega
            have h2 : (List.range n).drop i = i :: (List.range n).drop (i + 1) := by
              rw [List.drop_eq_getElem_cons (by simpa using hlt)]; simp
            rw [← h1, ← h2, List.take_append_drop]
          rw [e, List.findSome?_append]
          have : (List.range i).findSome? g = none := by
            rw [List.findSome?_eq_none_iff]
            intro x hx; exact hk x (by simpa using hx)
          rw [this, List.findSome?_cons, hp]; rfl
        rw [this]
      | none =>
        rw [whileE_next (by rw [hs i hlt, hp])]
        refine ih (i + 1) (by omega) fun k hk2 => ?_
        rcases Nat.lt_or_ge k i with c | c
        · exact hk k c
        · obtain rfl : k = i := by omega
          exact hp
  exact key n 0 (by omega) fun k hk => by omega

theorem range_get {α : Type} [Inhabited α] (l : List α) : (List.range l.length).map (fun i => l.getD i default) = l := by
  apply List.ext_getElem
  · simp
  · intro i h1 h2
    rw [List.getElem_map, List.getElem_range, getD_lt h2]

theorem range_some {α β : Type} [Inhabited α] (l : List α) (g : α → Option β) : (List.range l.length).findSome? (fun i => g (l.getD i default)) = l.findSome? g := by
  have := List.findSome?_map (f := fun i => l.getD i default) (p := g) (l := List.range l.length)
  rw [range_get] at this
  rw [this]; rfl

theorem some_filter {α β : Type} {g g' : α → Option β} {c : α → Bool} : ∀ {l : List α}, (∀ x ∈ l, c x = false → g' x = none) → (∀ x ∈ l, c x = true → g' x = g x) → l.findSome? g' = (l.filter c).findSome? g
  | [], _, _ => rfl
  | a :: r, h1, h2 => by
    have ih := some_filter (l := r) (fun x hx => h1 x (by simp [hx])) (fun x hx => h2 x (by simp [hx]))
    cases hc : c a with
    | true => rw [List.findSome?_cons, List.filter_cons_of_pos hc, List.findSome?_cons, h2 a (by simp) hc, ih]
    | false => rw [List.findSome?_cons, List.filter_cons_of_neg (by rw [hc]; exact Bool.false_ne_true), h1 a (by simp) hc, ih]

def shapesF (a p : Int) : List Facts := [⟨a, p, 1⟩, ⟨a, p, 2⟩, ⟨a, p, 3⟩]
def searchF (as ps : List Int) (q : Facts → Bool) : Option Facts := as.findSome? fun a => ps.findSome? fun p => (shapesF a p).find? q

def foundF (o : Option Facts) : Facts × Bool := match o with | some f => (f, true) | none => (⟨0, 0, 0⟩, false)

theorem shapes_loop {step : Int → Option (Int ⊕ (Unit ⊕ (Facts × Bool)))} {a p : Int} {q : Facts → Bool}
    (hs : ∀ s : Int, 1 ≤ s → s ≤ 3 → step s = some (if q ⟨a, p, s⟩ = true then .inr (.inr (⟨a, p, s⟩, true)) else .inl (s + 1))) (he : step 4 = some (.inr (.inl ()))) :
    whileE step 1 = some (match (shapesF a p).find? q with | some f => .inr (f, true) | none => .inl ()) := by
  unfold shapesF
  by_cases q1 : q ⟨a, p, 1⟩ = true
  · rw [whileE_done (by rw [hs 1 (by omega) (by omega), if_pos q1])]
    simp [q1]
  · rw [whileE_next (by rw [hs 1 (by omega) (by omega), if_neg q1])]
    by_cases q2 : q ⟨a, p, 2⟩ = true
    · rw [whileE_done (s := (1 : Int) + 1) (by rw [show (1 : Int) + 1 = 2 from rfl, hs 2 (by omega) (by omega), if_pos q2])]
      simp [q1, q2]
    · rw [whileE_next (s := (1 : Int) + 1) (by rw [show (1 : Int) + 1 = 2 from rfl, hs 2 (by omega) (by omega), if_neg q2])]
      by_cases q3 : q ⟨a, p, 3⟩ = true
      · rw [whileE_done (s := (2 : Int) + 1) (by rw [show (2 : Int) + 1 = 3 from rfl, hs 3 (by omega) (by omega), if_pos q3])]
        simp [q1, q2, q3]
      · rw [whileE_next (s := (2 : Int) + 1) (by rw [show (2 : Int) + 1 = 3 from rfl, hs 3 (by omega) (by omega), if_neg q3]), whileE_done (s := (3 : Int) + 1) (by rw [show (3 : Int) + 1 = 4 from rfl]; exact he)]
        simp [q1, q2, q3]

theorem wrap_small {s : Int} (h1 : 1 ≤ s) (h2 : s ≤ 3) : IntKind.i64.wrap (s + 1) = s + 1 := wrap_i64 (by omega) (by omega)

/-! ### The program's search -/

def firstK (l : List Rule) (k : Int) (f : Facts) : Bool := firstI l f == k
theorem firstK_is (l : List Rule) (k : Int) (f : Facts) : (firstI l f == k) = firstK l k f := id rfl
def facsR (l : List Rule) (k : Int) : Option Facts := searchF (cornC gAmp 20000 l) (cornC gPer 1000000 l) (firstK l k)

theorem corn_len {l : List Rule} (hl : l.length ≤ 1000) (g : Rule → Int × Int) (most : Int) : (cornC g most l).length ≤ 10000 := by
  unfold cornC compI Lib.compact Lib.compactUpTo
  rw [List.length_map]
  refine Nat.le_trans (List.length_filter_le _ _) ?_
  rw [List.length_range, sortI_len]
  refine Nat.le_trans (List.length_filter_le _ _) ?_
  rw [rawC_len]; omega

theorem factsFor_is {l : List Rule} (hl : l.length ≤ 1000) (h : ∀ r ∈ l, InRu r) (k : Int) : impl_factsFor l k = some (foundF (facsR l k)) := by
  unfold impl_factsFor
  rw [cornersA_is hl h, Option.bind_some, cornersP_is hl h, Option.bind_some]
  have ha := corn_len hl gAmp 20000
  have hp := corn_len hl gPer 1000000
  unfold facsR searchF
  generalize cornC gAmp 20000 l = as at ha
  generalize cornC gPer 1000000 l = ps at hp
  have e3 : ∀ (a p : Int) (t : Facts) (t18 : List Int) (t19 t20 t25 t26 : Int), whileE (impl_factsFor_l3 l k t ps a p t18 t19 t20 t25 t26) 1 = some (match (shapesF a p).find? (firstK l k) with | some f => .inr (f, true) | none => .inl ()) := by
    intro a p t t18 t19 t20 t25 t26
    exact shapes_loop (q := firstK l k) (fun s h1 h2 => by
      simp only [impl_factsFor_l3, h2, decide_true, if_true, first_is (show l.length ≤ 1000000 by omega), Option.bind_some, wrap_small h1 h2, firstK_is]
      split <;> rfl) (by simp [impl_factsFor_l3])
  have e2 : ∀ (a : Int) (t : Facts) (t18 : List Int) (t19 t20 : Int), whileE (impl_factsFor_l2 l k t ps a t18 t19 t20 (ps.length : Int)) 0 = some (match (ps.findSome? fun p => (shapesF a p).find? (firstK l k)) with | some f => .inr (f, true) | none => .inl ()) := by
    intro a t t18 t19 t20
    rw [while_some (step := impl_factsFor_l2 l k t ps a t18 t19 t20 (ps.length : Int)) (fun i => ((shapesF a (ps.getD i default)).find? (firstK l k)).map fun f => (f, true)) ps.length (fun i hi => by
      simp only [impl_factsFor_l2, Int.ofNat_lt, hi, decide_true, if_true, ixOk_nat, ck_true, Int.toNat_natCast, e3, Option.bind_some, wrap_nat1 (show i < 9223372036854775807 by omega)]
      cases (shapesF a (ps.getD i default)).find? (firstK l k) <;> rfl) (by simp [impl_factsFor_l2])]
    rw [range_some ps (fun p => ((shapesF a p).find? (firstK l k)).map fun f => (f, true))]
    have : (ps.findSome? fun p => ((shapesF a p).find? (firstK l k)).map fun f => (f, true)) = (ps.findSome? fun p => (shapesF a p).find? (firstK l k)).map fun f => (f, true) := by
      rw [List.map_findSome?]; rfl
    rw [this]
    cases (ps.findSome? fun p => (shapesF a p).find? (firstK l k)) <;> rfl
  rw [while_some (step := impl_factsFor_l1 l k (Facts.mk 0 0 0) ps as (as.length : Int)) (fun i => (ps.findSome? fun p => (shapesF (as.getD i default) p).find? (firstK l k)).map fun f => (f, true)) as.length (fun i hi => by
    simp only [impl_factsFor_l1, Int.ofNat_lt, hi, decide_true, if_true, ixOk_nat, ck_true, Int.toNat_natCast, e2, Option.bind_some, wrap_nat1 (show i < 9223372036854775807 by omega)]
    cases (ps.findSome? fun p => (shapesF (as.getD i default) p).find? (firstK l k)) <;> rfl) (by simp [impl_factsFor_l1])]
  rw [range_some as (fun a => (ps.findSome? fun p => (shapesF a p).find? (firstK l k)).map fun f => (f, true))]
  have : (as.findSome? fun a => (ps.findSome? fun p => (shapesF a p).find? (firstK l k)).map fun f => (f, true)) = (as.findSome? fun a => ps.findSome? fun p => (shapesF a p).find? (firstK l k)).map fun f => (f, true) := by
    rw [List.map_findSome?]; rfl
  rw [this]
  cases (as.findSome? fun a => ps.findSome? fun p => (shapesF a p).find? (firstK l k)) <;> rfl

/-! ### The reference's search -/

theorem rawC_nonneg {l : List Rule} (h : ∀ r ∈ l, InRu r) {x : Int} : (x ∈ rawC gAmp l → 0 ≤ x) ∧ (x ∈ rawC gPer l → 0 ≤ x) := by
  constructor
  · intro hx
    rcases rawC_mem.1 hx with e | ⟨r, hr, e | e⟩
    · omega
    · have := (h r hr).a0; simp only [gAmp] at e; omega
    · have := (h r hr).a0; have := (h r hr).a1; simp only [gAmp] at e; omega
  · intro hx
    rcases rawC_mem.1 hx with e | ⟨r, hr, e | e⟩
    · omega
    · have := (h r hr).p0; simp only [gPer] at e; omega
    · have := (h r hr).p0; have := (h r hr).p1; simp only [gPer] at e; omega

theorem corn_filter {g : Rule → Int × Int} {most : Int} {l : List Rule} {as : List Int} (hu : UpI as) (hm : ∀ x, x ∈ as ↔ x ∈ rawC g l) : as.filter (fun x => decide (x ≤ most)) = cornC g most l := by
  refine upI_unique (List.Pairwise.filter _ hu) (cornC_up _ _ _) fun x => ?_
  rw [List.mem_filter, decide_eq_true_eq, hm, cornC_mem]

theorem l18Find_is {l : List Rule} (hl : l.length ≤ 1000) (h : ∀ r ∈ l, InRu r) (k : Int) : spec_l18Find l k = some (foundF (facsR l k)) := by
  unfold spec_l18Find
  obtain ⟨as, ps, e, ⟨u1, n1, m1⟩, ⟨u2, n2, m2⟩⟩ := puts_is hl h k (Facts.mk 0 0 0)
  rw [e, Option.bind_some]
  simp only
  have e4 : ∀ (i j : Nat), i < as.length → j < ps.length → whileE (spec_l18Find_l4 l k (Facts.mk 0 0 0) as ps (i : Int) (j : Int)) 1 = some (match (shapesF (as.getD i default) (ps.getD j default)).find? (fun f => factsB f && firstK l k f) with | some f => .inr (f, true) | none => .inl ()) := by
    intro i j hi hj
    exact shapes_loop (q := fun f => factsB f && firstK l k f) (fun s h1 h2 => by
      simp only [spec_l18Find_l4, h2, decide_true, if_true, ixOk_nat, hi, hj, ck_true, Int.toNat_natCast, l18Facts_is, l18First_is (show l.length ≤ 1000000 by omega), Option.isSome_some, Option.getD_some, Bool.or_true, Option.bind_some, wrap_small h1 h2, firstK_is]
      split <;> rfl) (by simp [spec_l18Find_l4])
  have e3 : ∀ (i : Nat), i < as.length → whileE (spec_l18Find_l3 l k (Facts.mk 0 0 0) as ps (i : Int)) 0 = some (match (ps.findSome? fun p => (shapesF (as.getD i default) p).find? (fun f => factsB f && firstK l k f)) with | some f => .inr (f, true) | none => .inl ()) := by
    intro i hi
    rw [while_some (step := spec_l18Find_l3 l k (Facts.mk 0 0 0) as ps (i : Int)) (fun j => ((shapesF (as.getD i default) (ps.getD j default)).find? (fun f => factsB f && firstK l k f)).map fun f => (f, true)) ps.length (fun j hj => by
      simp only [spec_l18Find_l3, Int.ofNat_lt, hj, decide_true, if_true, e4 i j hi hj, Option.bind_some, wrap_nat1 (show j < 9223372036854775807 by omega)]
      cases (shapesF (as.getD i default) (ps.getD j default)).find? (fun f => factsB f && firstK l k f) <;> rfl) (by simp [spec_l18Find_l3])]
    rw [range_some ps (fun p => ((shapesF (as.getD i default) p).find? (fun f => factsB f && firstK l k f)).map fun f => (f, true))]
    have : (ps.findSome? fun p => ((shapesF (as.getD i default) p).find? (fun f => factsB f && firstK l k f)).map fun f => (f, true)) = (ps.findSome? fun p => (shapesF (as.getD i default) p).find? (fun f => factsB f && firstK l k f)).map fun f => (f, true) := by
      rw [List.map_findSome?]; rfl
    rw [this]
    cases (ps.findSome? fun p => (shapesF (as.getD i default) p).find? (fun f => factsB f && firstK l k f)) <;> rfl
  rw [while_some (step := spec_l18Find_l2 l k (Facts.mk 0 0 0) as ps) (fun i => (ps.findSome? fun p => (shapesF (as.getD i default) p).find? (fun f => factsB f && firstK l k f)).map fun f => (f, true)) as.length (fun i hi => by
    simp only [spec_l18Find_l2, Int.ofNat_lt, hi, decide_true, if_true, e3 i hi, Option.bind_some, wrap_nat1 (show i < 9223372036854775807 by omega)]
    cases (ps.findSome? fun p => (shapesF (as.getD i default) p).find? (fun f => factsB f && firstK l k f)) <;> rfl) (by simp [spec_l18Find_l2])]
  rw [range_some as (fun a => (ps.findSome? fun p => (shapesF a p).find? (fun f => factsB f && firstK l k f)).map fun f => (f, true))]
  have e5 : (as.findSome? fun a => (ps.findSome? fun p => (shapesF a p).find? (fun f => factsB f && firstK l k f)).map fun f => (f, true)) = (as.findSome? fun a => ps.findSome? fun p => (shapesF a p).find? (fun f => factsB f && firstK l k f)).map fun f => (f, true) := by
    rw [List.map_findSome?]; rfl
  have e6 : (as.findSome? fun a => ps.findSome? fun p => (shapesF a p).find? (fun f => factsB f && firstK l k f)) = facsR l k := by
    unfold facsR searchF
    rw [← corn_filter (most := 20000) u1 m1, ← corn_filter (most := 1000000) u2 m2]
    have bad : ∀ {a p : Int}, (20000 < a ∨ 1000000 < p) → (shapesF a p).find? (fun f => factsB f && firstK l k f) = none := by
      intro a p hap
      rw [List.find?_eq_none]
      intro f hf
      have : factsB f = false := by
        unfold shapesF at hf
        simp only [List.mem_cons, List.not_mem_nil, or_false] at hf
        unfold factsB
        rcases hf with rfl | rfl | rfl <;> simp only [Bool.and_eq_false_iff, decide_eq_false_iff_not] <;> omega
      rw [this]; simp
    have good : ∀ {a p : Int}, 0 ≤ a → a ≤ 20000 → 0 ≤ p → p ≤ 1000000 → (shapesF a p).find? (fun f => factsB f && firstK l k f) = (shapesF a p).find? (firstK l k) := by
      intro a p a0 a1 p0 p1
      have hb : ∀ s : Int, 1 ≤ s → s ≤ 3 → factsB ⟨a, p, s⟩ = true := by
        intro s s1 s2
        unfold factsB
        simp only [Bool.and_eq_true, decide_eq_true_eq]
        omega
      unfold shapesF
      simp only [List.find?_cons, hb 1 (by omega) (by omega), hb 2 (by omega) (by omega), hb 3 (by omega) (by omega), Bool.true_and, List.find?_nil]
    refine some_filter (fun a ha hc => ?_) (fun a ha hc => ?_)
    · rw [List.findSome?_eq_none_iff]
      intro p _
      exact bad (.inl (by simpa using hc))
    · have a0 := (rawC_nonneg h).1 ((m1 a).1 ha)
      have a1 : a ≤ 20000 := of_decide_eq_true hc
      refine some_filter (fun p hp hc => ?_) (fun p hp hc => ?_)
      · exact bad (.inr (by simpa using hc))
      · exact good a0 a1 ((rawC_nonneg h).2 ((m2 p).1 hp)) (of_decide_eq_true hc)
  rw [e5, e6]
  cases facsR l k <;> rfl

/-! ### What is found -/

theorem facsR_some {l : List Rule} (h : ∀ r ∈ l, InRu r) {k : Int} {f : Facts} (hf : facsR l k = some f) : factsB f = true ∧ firstI l f = k := by
  unfold facsR searchF at hf
  obtain ⟨a, ha, h1⟩ := List.exists_of_findSome?_eq_some hf
  obtain ⟨p, hp, h2⟩ := List.exists_of_findSome?_eq_some h1
  have hq := List.find?_some h2
  have hm := List.mem_of_find?_eq_some h2
  obtain ⟨ra, a1⟩ := cornC_mem.1 ha
  obtain ⟨rp, p1⟩ := cornC_mem.1 hp
  have a0 := (rawC_nonneg h).1 ra
  have p0 := (rawC_nonneg h).2 rp
  refine ⟨?_, by simpa [firstK] using hq⟩
  unfold shapesF at hm
  simp only [List.mem_cons, List.not_mem_nil, or_false] at hm
  unfold factsB
  rcases hm with rfl | rfl | rfl <;> simp only [Bool.and_eq_true, decide_eq_true_eq] <;> omega

theorem facsR_none {l : List Rule} {k : Int} (hf : facsR l k = none) {f : Facts} (ha : f.Amp ∈ cornC gAmp 20000 l) (hp : f.Period ∈ cornC gPer 1000000 l) (h1 : 1 ≤ f.Shape) (h3 : f.Shape ≤ 3) : firstI l f ≠ k := by
  unfold facsR searchF at hf
  rw [List.findSome?_eq_none_iff] at hf
  have := hf _ ha
  rw [List.findSome?_eq_none_iff] at this
  have := this _ hp
  rw [List.find?_eq_none] at this
  have := this f (by
    unfold shapesF
    obtain ⟨a, p, s⟩ := f
    have hs : s = 1 ∨ s = 2 ∨ s = 3 := by simp only at h1 h3; omega
    rcases hs with rfl | rfl | rfl <;> simp)
  simpa [firstK] using this

theorem greatest : ∀ l : List Int, l ≠ [] → ∃ m ∈ l, ∀ x ∈ l, x ≤ m
  | [], h => absurd rfl h
  | [a], _ => ⟨a, by simp, by simp⟩
  | a :: b :: r, _ => by
    obtain ⟨m, hm, h⟩ := greatest (b :: r) (by simp)
    by_cases c : a ≤ m
    · refine ⟨m, List.mem_cons_of_mem _ hm, fun x hx => ?_⟩
      rcases List.mem_cons.1 hx with e | e
      · omega
      · exact h x e
    · refine ⟨a, by simp, fun x hx => ?_⟩
      rcases List.mem_cons.1 hx with e | e
      · omega
      · have := h x e; omega

theorem corner {g : Rule → Int × Int} {most : Int} {l : List Rule} {v : Int} (h0 : 0 ≤ v) (h1 : v ≤ most) : ∃ a ∈ cornC g most l, ∀ r ∈ l, (decide ((g r).1 ≤ a) && decide (a ≤ (g r).2)) = (decide ((g r).1 ≤ v) && decide (v ≤ (g r).2)) := by
  have hz : (0 : Int) ∈ (rawC g l).filter fun x => decide (x ≤ v) := by
    rw [List.mem_filter]; exact ⟨rawC_mem.2 (.inl rfl), by simpa using h0⟩
  obtain ⟨a, ha, hmax⟩ := greatest ((rawC g l).filter fun x => decide (x ≤ v)) (fun e => by rw [e] at hz; cases hz)
  obtain ⟨a1, a2⟩ := List.mem_filter.1 ha
  have a2 : a ≤ v := of_decide_eq_true a2
  refine ⟨a, cornC_mem.2 ⟨a1, by omega⟩, fun r hr => ?_⟩
  have m1 : (g r).1 ≤ v → (g r).1 ≤ a := fun q => hmax _ (List.mem_filter.2 ⟨rawC_mem.2 (.inr ⟨r, hr, .inl rfl⟩), decide_eq_true q⟩)
  have m2 : (g r).2 + 1 ≤ v → (g r).2 + 1 ≤ a := fun q => hmax _ (List.mem_filter.2 ⟨rawC_mem.2 (.inr ⟨r, hr, .inr rfl⟩), decide_eq_true q⟩)
  rw [Bool.eq_iff_iff]
  simp only [Bool.and_eq_true, decide_eq_true_eq]
  omega

theorem find_congr {p q : Nat → Bool} : ∀ {l : List Nat}, (∀ x ∈ l, p x = q x) → l.find? p = l.find? q
  | [], _ => rfl
  | a :: r, h => by
    rw [List.find?_cons, List.find?_cons, h a (by simp), find_congr (l := r) fun x hx => h x (by simp [hx])]

/-- Where a rule is the first one for some facts, the search finds facts. -/
theorem facsR_reach {l : List Rule} {f : Facts} (hf : factsB f = true) : facsR l (firstI l f) ≠ none := by
  unfold factsB at hf
  simp only [Bool.and_eq_true, decide_eq_true_eq] at hf
  obtain ⟨⟨⟨a0, a1⟩, p0, p1⟩, s1, s3⟩ := hf
  obtain ⟨a, ha, ma⟩ := corner (g := gAmp) (l := l) a0 a1
  obtain ⟨p, hp, mp⟩ := corner (g := gPer) (l := l) p0 p1
  intro hn
  refine facsR_none hn (f := ⟨a, p, f.Shape⟩) ha hp s1 s3 ?_
  unfold firstI
  have : firstR l ⟨a, p, f.Shape⟩ = firstR l f := by
    unfold firstR
    refine find_congr fun i hi => ?_
    have hm := getD_mem (show i < l.length by simpa using hi) default
    have e1 : (decide ((l.getD i default).FromAmp ≤ a) && decide (a ≤ (l.getD i default).ToAmp)) = (decide ((l.getD i default).FromAmp ≤ f.Amp) && decide (f.Amp ≤ (l.getD i default).ToAmp)) := ma _ hm
    have e2 : (decide ((l.getD i default).FromPer ≤ p) && decide (p ≤ (l.getD i default).ToPer)) = (decide ((l.getD i default).FromPer ≤ f.Period) && decide (f.Period ≤ (l.getD i default).ToPer)) := mp _ hm
    unfold matchB
    simp only
    rw [e1, e2]
  rw [this]

end Go.Proofs.Ytlnpnpjkpkdoeaa
