/- The plain law of FnCovered. No condition. -/
import Derived.Test.YtikaacjlnkfebaaHCover
import Derived.Test.YtikaacjlnkfebaaHVolD
namespace Go.Proofs.Ytikaacjlnkfebaa
open Go Go.RowKit
set_option linter.unusedSimpArgs false
set_option linter.unusedVariables false

theorem l23Window_is {c : List UInt8} (h : c.length ≤ 1099511627776) : ∃ l f t, spec_l23Window c = some (l, f, t) ∧ l.length ≤ 60 := by
  unfold spec_l23Window
  obtain ⟨l, s1, e1, hl, h1⟩ := l23Bent_is (m := 10000) ((srcN_from h).le (by omega))
  obtain ⟨a, s2, e2, _, _, _, h2⟩ := pick_is (m := 9000) (h1.le (by omega)) (n := 60) (by omega)
  obtain ⟨b, s3, e3, _, _, _, h3⟩ := pick_is (m := 8000) (h2.le (by omega)) (n := 60) (by omega)
  obtain ⟨d, s4, e4, _, _, _, h4⟩ := pick_is (m := 7000) (h3.le (by omega)) (n := 16) (by omega)
  rw [From_is, Option.bind_some, e1, Option.bind_some]
  simp only
  rw [e2, Option.bind_some]
  simp only
  rw [e3, Option.bind_some]
  simp only
  rw [e4, Option.bind_some]
  simp only
  split
  · obtain ⟨x, s5, e5, _⟩ := among_is (m := 6000) (h4.le (by omega)) (l := [(-1), 0, (IntKind.i64.wrap ((IntKind.i64.wrap (10 * a)) + (IntKind.i64.wrap (10 * b)))), (IntKind.i64.wrap ((IntKind.i64.wrap ((IntKind.i64.wrap (10 * a)) + (IntKind.i64.wrap (10 * b)))) + 1))]) (by simp) (by simp)
    rw [e5]; exact ⟨_, _, _, rfl, hl⟩
  · split
    · obtain ⟨x, s5, e5, _⟩ := among_is (m := 6000) (h4.le (by omega)) (l := [(IntKind.i64.wrap (10 * a)), 10000000, 10000001]) (by simp) (by simp)
      rw [e5]; exact ⟨_, _, _, rfl, hl⟩
    · exact ⟨_, _, _, rfl, hl⟩

theorem l00Max_is (a b : Int) : ∃ v, spec_l00Max a b = some v := by
  unfold spec_l00Max
  split
  · exact ⟨_, rfl⟩
  · exact ⟨_, rfl⟩

theorem DrawCover_is {c : List UInt8} (h : c.length ≤ 1099511627776) : ∃ l f t, spec_DrawCoverTime c = some (l, f, t) ∧ l.length ≤ 60 := by
  obtain ⟨l, f, t, e, hl⟩ := l23Window_is h
  unfold spec_DrawCoverTime
  rw [e, Option.bind_some]
  simp only
  by_cases g : 1 < (l.length : Int)
  · rw [decide_eq_true g, ixOk_of (by omega) (by omega), Bool.or_true, ck_true]
    split
    · obtain ⟨b, s4, e4, h4⟩ := one_is (m := 7000) ((srcN_from h).le (by omega)) (n := 2) (by omega)
      rw [From_is, Option.bind_some, e4, Option.bind_some]
      simp only
      split
      · rw [ck_true, ixOk_of (by omega) (by omega), ck_true]
        obtain ⟨v, ev⟩ := l00Max_is (l.getD 0 default).To (l.getD 1 default).To
        rw [ev]
        exact ⟨_, _, _, rfl, by rw [List.length_set]; exact hl⟩
      · exact ⟨_, _, _, rfl, hl⟩
    · exact ⟨_, _, _, rfl, hl⟩
  · rw [decide_eq_false g]
    simp only [Bool.not_false, Bool.true_or, ck_true, Bool.false_and, Bool.false_eq_true, if_false]
    exact ⟨_, _, _, rfl, hl⟩

theorem f6ints_refl {l : List Int} (hl : l.length ≤ 100000000) : laws_f6ints l l = some true := by
  unfold laws_f6ints
  rw [if_neg (by simp), while_all (step := laws_f6ints_l1 l l) (fun _ => true) l.length true (yes := .inl ()) (no := .inr false) (by simp) (fun i hi => by
    simp only [laws_f6ints_l1, Int.ofNat_lt, hi, decide_true, if_true, ixOk_nat, ck_true, Int.toNat_natCast, wrap_nat1 (show i < 9223372036854775807 by omega), beq_self_eq_true, Bool.not_true, Bool.false_eq_true, if_false]) (by simp [laws_f6ints_l1])]
  rfl

theorem sameW_refl {l : List Window} (hl : l.length ≤ 1000000) : spec_SameWindows l l = some true := by
  unfold spec_SameWindows spec_l15Same
  rw [if_neg (by simp), while_all (step := spec_l15Same_l1 l l) (fun _ => true) l.length true (yes := .inl ()) (no := .inr false) (by simp) (fun i hi => by
    simp only [spec_l15Same_l1, Int.ofNat_lt, hi, decide_true, if_true, ixOk_nat, ck_true, Int.toNat_natCast, wrap_nat1 (show i < 9223372036854775807 by omega), beq_self_eq_true, Bool.and_self, Bool.not_true, Bool.false_eq_true, if_false]) (by simp [spec_l15Same_l1])]
  rfl

def atV (l : List Volume) (t : Int) : List Int := keptTo (α := Int) (fun i => decide ((l.getD i default).From ≤ t) && decide (t ≤ (l.getD i default).To)) (fun i => (i : Int)) l.length

theorem VolumesAt_is {l : List Volume} (hl : l.length ≤ 1000000) (t : Int) : impl_VolumesAt l t = some (if validV l = true then (if timeV t = true then (atV l t, 0) else ([], 2)) else ([], 1)) := by
  have a : whileE (impl_indicesWhere__impl_VolumesAt_c1_l1 t l (l.length : Int)) (([] : List Int), 0) = some (atV l t) :=
    while_keep (step := impl_indicesWhere__impl_VolumesAt_c1_l1 t l (l.length : Int)) (fun i => decide ((l.getD i default).From ≤ t) && decide (t ≤ (l.getD i default).To)) (fun i => (i : Int)) l.length (r := atV l t) (fun out i hi ho => by
      simp only [impl_indicesWhere__impl_VolumesAt_c1_l1, impl_VolumesAt_c1, impl_in_is, Int.ofNat_lt, hi, decide_true, if_true, ixOk_nat, ck_true, Int.toNat_natCast, Option.bind_some, wrap_nat1 (show i < 9223372036854775807 by omega)]
      rw [appOk_of (by simp; omega), ck_true]
      split <;> rfl) (by simp [impl_indicesWhere__impl_VolumesAt_c1_l1, atV, keptTo])
  have t1 : impl_ValidTime t = some (timeV t) := id rfl
  unfold impl_VolumesAt impl_indicesWhere__impl_VolumesAt_c1
  rw [ValidVolumes_is (by omega), a, t1]
  simp only [Option.bind_some]
  cases validV l <;> cases timeV t <;> rfl

theorem atV_mem {l : List Volume} {t i : Int} (h : i ∈ atV l t) : ∃ k : Nat, i = (k : Int) ∧ k < l.length ∧ (l.getD k default).From ≤ t ∧ t ≤ (l.getD k default).To := by
  unfold atV keptTo at h
  obtain ⟨k, hk, rfl⟩ := List.mem_map.1 h
  obtain ⟨h1, h2⟩ := List.mem_filter.1 hk
  simp only [List.mem_range, Bool.and_eq_true, decide_eq_true_eq] at h1 h2
  exact ⟨k, rfl, h1, h2⟩

/-- The volumes at a time that no copy covers have no copies. -/
theorem in_loop {a : List Volume} (ha : a.length ≤ 1000) {u : Int} (hu : ¬ covd a u) (list : List Volume) (f t bad : Int) (model : List Int) (one : Int) (open_ : List Window) (b c : Int) (right_ : List Window) (i : Int) :
    whileE (laws_FnCovered_l2 list f t bad model one open_ a b c right_ i (atV a u)) 0 = some (.inl ()) := by
  have hlen : (atV a u).length ≤ a.length := keptTo_len _ _ _
  rw [while_all (step := laws_FnCovered_l2 list f t bad model one open_ a b c right_ i (atV a u)) (fun _ => true) (atV a u).length true (yes := .inl ()) (no := .inr false) (by simp) (fun k hk => by
    obtain ⟨j, e, h1, h2⟩ := atV_mem (getD_mem hk default)
    have hcop : ¬ 0 < (a.getD j default).Copies := fun c => hu ⟨_, getD_mem h1 default, c, h2.1, h2.2⟩
    have g1 : decide ((j : Int) < 0) = false := decide_eq_false (by omega)
    have g2 : decide ((a.length : Int) ≤ (j : Int)) = false := decide_eq_false (by omega)
    unfold laws_FnCovered_l2
    dsimp only
    rw [if_pos (decide_eq_true (by omega)), ixOk_nat, decide_eq_true hk, ck_true]
    simp only [Int.toNat_natCast, e, g1, g2, ixOk_nat, decide_eq_true h1, Bool.or_true, ck_true, decide_eq_false hcop, Bool.or_self, Bool.false_eq_true, if_false, if_true]
    rw [wrap_nat1 (by omega)]) (by simp [laws_FnCovered_l2])]
  rfl

theorem right_loop {a : List Volume} (ha : a.length ≤ 60) {b c : Int} (hA : codeA a b c = 0) {h : List Window} (hl : h.length ≤ 1000000) (hf : Fit h) (hin : ∀ u, inW h u ↔ b ≤ u ∧ u ≤ c ∧ ¬ covd a u) (list : List Volume) (f t bad : Int) (model : List Int) (one : Int) (open_ : List Window) :
    whileE (laws_FnCovered_l1 list f t bad model one open_ a b c h) 0 = some (.inl ()) := by
  obtain ⟨hv, h0, _, h1⟩ := codeA_0 hA
  rw [while_all (step := laws_FnCovered_l1 list f t bad model one open_ a b c h) (fun _ => true) h.length true (yes := .inl ()) (no := .inr false) (by simp) (fun i hi => by
    obtain ⟨w, hw⟩ : ∃ w, h.getD i default = w := ⟨_, rfl⟩
    have hm : w ∈ h := by rw [← hw]; exact getD_mem hi default
    have fw := hf w hm
    have q1 := (hin w.From).1 ⟨w, hm, by omega, by omega⟩
    have q2 := (hin w.To).1 ⟨w, hm, by omega, by omega⟩
    have ht : timeV w.From = true := by unfold timeV; simp; omega
    unfold laws_FnCovered_l1
    dsimp only
    rw [if_pos (decide_eq_true (by omega)), ixOk_nat, decide_eq_true hi, ck_true]
    simp only [Int.toNat_natCast, hw]
    rw [VolumesAt_is (by omega), if_pos hv, if_pos ht, Option.bind_some]
    simp only [beq_self_eq_true, Bool.not_true, decide_eq_false (show ¬ w.From < b by omega), decide_eq_false (show ¬ c < w.To by omega), Bool.or_self, Bool.false_eq_true, if_false, if_true]
    rw [in_loop (by omega) q1.2.2, Option.bind_some, wrap_nat1 (by omega)]) (by simp [laws_FnCovered_l1])]
  rfl

theorem path_loop {l : List Volume} (hv : validV l = true) (t : Int) (o : List Int) (ho : o.length ≤ 10000001) (u : Int) : ∀ (m i : Nat) (s : Int), i + m = o.length → Path l s (o.drop i) u →
    whileE (laws_FnCovered_l3 l t o) (s, (i : Int)) = some (.inl u) := by
  intro m
  induction m with
  | zero =>
    intro i s hi hp
    rw [List.drop_eq_nil_of_le (by omega)] at hp
    have hp : u = s := hp
    subst hp
    refine whileE_done ?_
    unfold laws_FnCovered_l3; dsimp only; rw [if_neg (by simp; omega)]
  | succ m ih =>
    intro i s hi hp
    have hio : i < o.length := by omega
    rw [List.drop_eq_getElem_cons hio] at hp
    obtain ⟨k, e, hk, hc, hp⟩ := hp
    have e' : o.getD i default = (k : Int) := by rw [getD_lt hio]; exact e
    have hone := valid_one hv (getD_mem hk default)
    have w1 : IntKind.i64.wrap ((l.getD k default).To + 1) = (l.getD k default).To + 1 := wrap_i64 (by omega) (by omega)
    have g1 := hc.1
    have g2 := hc.2.1
    have g3 := hc.2.2
    have hst : laws_FnCovered_l3 l t o (s, (i : Int)) = some (.inl ((l.getD k default).To + 1, ((i + 1 : Nat) : Int))) := by
      unfold laws_FnCovered_l3
      dsimp only
      rw [if_pos (decide_eq_true (by omega)), ixOk_nat, decide_eq_true hio, ck_true]
      simp only [Int.toNat_natCast, e', ixOk_nat, decide_eq_true hk, ck_true, decide_eq_false (show ¬ s < (l.getD k default).From by omega), decide_eq_false (show ¬ (l.getD k default).To < s by omega), decide_eq_false (show ¬ (l.getD k default).Copies < 1 by omega), Bool.or_self, Bool.false_eq_true, if_false, w1]
      rw [wrap_nat1 (by omega)]
    rw [whileE_next hst]
    exact ih (i + 1) _ (by omega) hp

theorem l4_l3 : laws_FnCovered_l4 = laws_FnCovered_l3 := rfl

theorem tail_is {l : List Volume} (hl : l.length ≤ 60) {f t : Int} {o : List Int} {c4 c6 : Int} {g : List Window} (ho : o.length ≤ 10000001) (hg : g.length ≤ 1000000)
    (k1 : codeA l f t ≠ 0 → o = [] ∧ c4 = codeA l f t) (k2 : codeA l f t = 0 → (c4 = 0 ∧ ∃ u, t < u ∧ Path l f o u) ∨ (c4 = 3 ∧ o = [] ∧ ∃ u, f ≤ u ∧ u ≤ t ∧ ¬ covd l u))
    (k3 : codeA l f t ≠ 0 → g = [] ∧ c6 = codeA l f t) (k4 : codeA l f t = 0 → c6 = 0 ∨ c6 = 5) (k5 : c6 = 0 → codeA l f t = 0 ∧ Fit g ∧ ∀ u, inW g u ↔ f ≤ u ∧ u ≤ t ∧ ¬ covd l u) :
    (if ((((c6 == 0) && (!(c4 == 2))) && (!(c4 == 1))) && (!(((g.length : Int) == 0) == (c4 == 0)))) then
            some false
          else
            if (!(c4 == 0)) then
              some true
            else
              (whileE (laws_FnCovered_l3 l t o) (f, 0)).bind fun y_32 =>
              match y_32 with
              | .inl y_32a =>
                some (decide (t < y_32a))
              | .inr y_32b =>
                some y_32b) = some true := by
  by_cases h : codeA l f t = 0
  · obtain ⟨hv, h0, hft, h1⟩ := codeA_0 h
    rcases k2 h with ⟨rfl, u, hu, hp⟩ | ⟨rfl, _, u, hu1, hu2, hu3⟩
    · have e1 : ((((c6 == 0) && (!((0 : Int) == 2))) && (!((0 : Int) == 1))) && (!(((g.length : Int) == 0) == ((0 : Int) == 0)))) = false := by
        rcases k4 h with rfl | rfl
        · obtain ⟨_, k6, k7⟩ := k5 rfl
          have : g = [] := by
            rcases g with _ | ⟨w, g⟩
            · rfl
            · have fw := k6 w List.mem_cons_self
              have := (k7 w.From).1 ⟨w, List.mem_cons_self, by omega, by omega⟩
              exact absurd (hp.covers w.From this.1 (by omega)) this.2.2
          rw [this]; rfl
        · rfl
      rw [if_neg (by rw [e1]; simp), if_neg (by simp)]
      have := path_loop hv t o ho u o.length 0 f (by omega) (by simpa using hp)
      have this' : whileE (laws_FnCovered_l3 l t o) (f, 0) = some (.inl u) := this
      rw [this']
      simp [hu]
    · have e1 : ((((c6 == 0) && (!((3 : Int) == 2))) && (!((3 : Int) == 1))) && (!(((g.length : Int) == 0) == ((3 : Int) == 0)))) = false := by
        rcases k4 h with rfl | rfl
        · obtain ⟨_, k6, k7⟩ := k5 rfl
          have : (g.length : Int) ≠ 0 := by
            intro c
            have : g = [] := List.length_eq_zero_iff.1 (by omega)
            rw [this] at k7
            exact inW_nil ((k7 u).2 ⟨hu1, hu2, hu3⟩)
          have e : ((g.length : Int) == 0) = false := by simpa using this
          rw [e]; rfl
        · rfl
      rw [if_neg (by rw [e1]; simp), if_pos (by simp)]
  · obtain ⟨_, rfl⟩ := k1 h
    obtain ⟨_, rfl⟩ := k3 h
    have e : (codeA l f t == 0) = false := by simpa using h
    rw [e]
    simp

theorem law_Covered {code : List UInt8} (w : code.length ≤ maxLen) : laws_FnCovered code = some true := by
  unfold laws_FnCovered laws_f6big
  rw [Option.bind_some]
  by_cases hb : (4096 : Int) < (code.length : Int)
  · simp [hb]
  have hc : code.length ≤ 1099511627776 := by omega
  rw [if_neg (by simpa using hb)]
  obtain ⟨l, f, t, e1, hl⟩ := DrawCover_is hc
  obtain ⟨a, b, c, e2, ha⟩ := l23Window_is hc
  have e2' : spec_DrawGapsOfArchive code = some (a, b, c) := by unfold spec_DrawGapsOfArchive; rw [e2]; rfl
  obtain ⟨o, c4, e3, e4, ho, k1, k2⟩ := Cover_same (l := l) (by omega) f t
  obtain ⟨g, c6, e5, e6, hg, k3, k4, k5⟩ := Gaps_same (l := l) (by omega) f t
  obtain ⟨h, c9, e7, e8, hh, k6, k7, k8⟩ := Gaps_same (l := a) (by omega) b c
  have r1 := f6ints_refl (l := o) (by omega)
  have r2 := sameW_refl hg
  have r3 := sameW_refl hh
  have T := tail_is hl ho hg k1 k2 k3 k4 k5
  simp only [e1, e2', e3, e4, e5, e6, e7, e8, r1, r2, r3, Option.bind_some, Option.isSome_some, Option.getD_some, Bool.or_true, ck_true, beq_self_eq_true, Bool.not_true, Bool.or_self, Bool.false_eq_true, if_false, l4_l3]
  split
  · rename_i h9
    have h9 : c9 = 0 := by simpa using h9
    obtain ⟨q1, q2, q3⟩ := k8 h9
    rw [right_loop ha q1 hh q2 q3, Option.bind_some]
    exact T
  · exact T

end Go.Proofs.Ytikaacjlnkfebaa
