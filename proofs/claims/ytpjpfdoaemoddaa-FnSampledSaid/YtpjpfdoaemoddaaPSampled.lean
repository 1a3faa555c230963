/- The plain law of FnSampled. No condition. -/
import Derived.Test.YtpjpfdoaemoddaaHSample
import Derived.Test.YtpjpfdoaemoddaaHDrawA
import Derived.Test.YtpjpfdoaemoddaaHDrawO
namespace Go.Proofs.Ytpjpfdoaemoddaa
open Go Go.RowKit
set_option linter.unusedSimpArgs false
set_option linter.unusedVariables false

theorem f6ints_is {a b : List Int} (h : a.length ≤ 1099511627776) : laws_f6ints a b = some (decide (a = b)) := by
  unfold laws_f6ints
  by_cases hl : a.length = b.length
  · have e : (!((a.length : Int) == (b.length : Int))) = false := by simp [hl]
    rw [e]
    simp only [Bool.false_eq_true, if_false]
    rw [while_all (step := laws_f6ints_l1 a b) (fun i => a.getD i default == b.getD i default) a.length (decide (a = b)) (yes := .inl ()) (no := .inr false) (by
      rw [decide_eq_true_eq]; exact (getD_eq_iff hl).symm) (fun i hi => by
      simp only [laws_f6ints_l1, Int.ofNat_lt, hi, decide_true, if_true, ixOk_nat, ck_true, Int.toNat_natCast, wrap_nat1 (show i < 9223372036854775807 by omega), show i < b.length by omega]
      cases (a.getD i default == b.getD i default) <;> rfl) (by simp [laws_f6ints_l1])]
    by_cases hab : a = b
    · simp [hab]
    · simp [hab]
  · have e : (!((a.length : Int) == (b.length : Int))) = true := by
      simp; omega
    rw [e]
    have : a ≠ b := fun c => hl (by rw [c])
    simp [this]

theorem l00Min_is (a b : Int) : ∃ v, spec_l00Min a b = some v ∧ v ≤ a ∧ v ≤ b ∧ (v = a ∨ v = b) := by
  unfold spec_l00Min
  split
  · rename_i h; have : a < b := by simpa using h
    exact ⟨_, rfl, by omega, by omega, by omega⟩
  · rename_i h; have : ¬ a < b := by simpa using h
    exact ⟨_, rfl, by omega, by omega, by omega⟩

theorem l26Draw_is {m : Nat} {s : L00Src} (h : SrcN (m + 110) s) : ∃ l s', spec_l26Draw s 12 = some (l, s') ∧ l.length ≤ 24 ∧ SrcN m s' := by
  obtain ⟨mn, hmn, m1, m2, m3⟩ := l00Min_is 12 12
  have hmn12 : mn = 12 := by omega
  subst hmn12
  have app : ∀ (l : List Fault) (x : Fault), l.length ≤ 100 → appOk (l.length + ([x] : List Fault).length) 16 = true := fun l x hl => appOk_of (by simp; omega)
  have fin : ∀ (l : List Fault), l.length ≤ 100 → ∃ b, spec_l26Faults l 12 = some b := fun l hl => ⟨_, l26Faults_is (by decide) (by decide) (by omega)⟩
  have cutk : ∀ (l : List Fault), 1 ≤ l.length → l.length ≤ 100 → cutOk 0 (IntKind.i64.wrap ((l.length : Int) - 1)) l.length = true ∧ (l.take (IntKind.i64.wrap ((l.length : Int) - 1)).toNat).length ≤ l.length := fun l h1 h2 => by
    rw [wrap_i64 (by omega) (by omega)]
    exact ⟨cutOk_of (by omega) (by omega) (by omega), by rw [List.length_take]; omega⟩
  obtain ⟨y, hy, q⟩ := while_post (step := spec_l26Draw_l1 12) (fun x => ∃ I : Nat, x.2.2 = (I : Int) ∧ I ≤ 12 ∧ SrcN (m + 12 + 8 * (12 - I)) x.1 ∧ x.2.1.length ≤ 2 * I) (fun y => SrcN (m + 12) y.1 ∧ y.2.length ≤ 24) (fun x => (12 - x.2.2).toNat) (by
    rintro ⟨s, out, i⟩ ⟨I, rfl, hI, hs, hl⟩
    simp only at hs hl
    by_cases hk : I < 12
    · have hk' : (I : Int) < 12 := by omega
      left
      obtain ⟨b1, s1, e1, h1⟩ := one_is (m := m + 12 + 8 * (12 - (I + 1)) + 6) (hs.le (by omega)) (n := 3) (by omega)
      simp only [spec_l26Draw_l1, hmn, Option.bind_some, hk', decide_true, if_true, e1, wrap_nat1 (show I < 9223372036854775807 by omega)]
      cases b1
      · obtain ⟨b2, s2, e2, h2⟩ := one_is (m := m + 12 + 8 * (12 - (I + 1)) + 4) h1 (n := 8) (by omega)
        simp only [Bool.false_eq_true, if_false, e2, Option.bind_some]
        cases b2
        · simp only [Bool.false_eq_true, if_false]
          exact ⟨_, rfl, ⟨I + 1, rfl, by omega, h2.le (by omega), by simp only; omega⟩, by simp only; omega⟩
        · obtain ⟨v, s3, e3, _, _, _, h3⟩ := pick_is (m := m + 12 + 8 * (12 - (I + 1)) + 2) h2 (n := 5) (by omega)
          simp only [if_true, e3, Option.bind_some]
          rw [app _ _ (by omega), ck_true]
          generalize hL : out ++ ([Fault.mk (I : Int) (IntKind.i64.wrap (1 + v))] : List Fault) = L
          have hLl : L.length = out.length + 1 := by rw [← hL]; simp
          obtain ⟨b, eb⟩ := fin L (by omega)
          rw [eb]
          simp only [Option.bind_some]
          obtain ⟨c1, c2⟩ := cutk L (by omega) (by omega)
          cases b
          · simp only [Bool.not_false, if_true, c1, ck_true]
            exact ⟨_, rfl, ⟨I + 1, rfl, by omega, h3.le (by omega), by simp only; omega⟩, by simp only; omega⟩
          · simp only [Bool.not_true, Bool.false_eq_true, if_false]
            exact ⟨_, rfl, ⟨I + 1, rfl, by omega, h3.le (by omega), by simp only; omega⟩, by simp only; omega⟩
      · obtain ⟨u, s4, e4, _, _, _, h4⟩ := pick_is (m := m + 12 + 8 * (12 - (I + 1)) + 4) h1 (n := 5) (by omega)
        obtain ⟨b2, s2, e2, h2⟩ := one_is (m := m + 12 + 8 * (12 - (I + 1)) + 2) h4 (n := 8) (by omega)
        simp only [if_true, e4, e2, Option.bind_some]
        rw [app _ _ (by omega), ck_true]
        generalize hL0 : out ++ ([Fault.mk (I : Int) (IntKind.i64.wrap (1 + u))] : List Fault) = L0
        have hLl0 : L0.length = out.length + 1 := by rw [← hL0]; simp
        cases b2
        · simp only [Bool.false_eq_true, if_false]
          exact ⟨_, rfl, ⟨I + 1, rfl, by omega, h2.le (by omega), by simp only; omega⟩, by simp only; omega⟩
        · obtain ⟨v, s3, e3, _, _, _, h3⟩ := pick_is (m := m + 12 + 8 * (12 - (I + 1))) h2 (n := 5) (by omega)
          simp only [if_true, e3, Option.bind_some]
          rw [app _ _ (by omega), ck_true]
          generalize hL : L0 ++ ([Fault.mk (I : Int) (IntKind.i64.wrap (1 + v))] : List Fault) = L
          have hLl : L.length = out.length + 2 := by rw [← hL]; simp [hLl0]
          obtain ⟨b, eb⟩ := fin L (by omega)
          rw [eb]
          simp only [Option.bind_some]
          obtain ⟨c1, c2⟩ := cutk L (by omega) (by omega)
          cases b
          · simp only [Bool.not_false, if_true, c1, ck_true]
            exact ⟨_, rfl, ⟨I + 1, rfl, by omega, h3.le (by omega), by simp only; omega⟩, by simp only; omega⟩
          · simp only [Bool.not_true, Bool.false_eq_true, if_false]
            exact ⟨_, rfl, ⟨I + 1, rfl, by omega, h3.le (by omega), by simp only; omega⟩, by simp only; omega⟩
    · have : I = 12 := by omega
      subst this
      right
      exact ⟨(s, out), by simp [spec_l26Draw_l1, hmn], hs, by simp only; omega⟩) (s := (s, ([] : List Fault), 0)) ⟨0, rfl, by omega, h.le (by omega), by simp⟩
  obtain ⟨q1, q2⟩ := q
  unfold spec_l26Draw
  rw [hy, Option.bind_some]
  by_cases hp : 0 < (y.2.length : Int)
  · obtain ⟨b1, s1, e1, h1⟩ := one_is (m := m + 10) q1 (n := 10) (by omega)
    simp only [hp, decide_true, if_true, e1, Option.bind_some, Bool.true_and]
    cases b1
    · simp only [Bool.false_eq_true, if_false]
      exact ⟨_, _, rfl, q2, h1.le (by omega)⟩
    · obtain ⟨v, s2, e2, v0, v1, _, h2⟩ := pick_is (m := m + 8) h1 (n := (y.2.length : Int)) (by omega)
      have v2 := v1 (by omega)
      obtain ⟨a, s3, e3, _, h3⟩ := among_is (m := m + 6) h2 (l := [0, 5, 6, (-1)]) (by simp) (by simp)
      simp only [if_true, e2, Option.bind_some]
      rw [ixOk_of v0 (by omega), ck_true, e3, Option.bind_some]
      generalize hx : y.2.getD v.toNat default = x
      obtain ⟨c, s4, e4, _, h4⟩ := among_is (m := m + 4) h3 (l := [x.Index, IntKind.i64.wrap (x.Index + 1), (-1), 12, 100]) (by simp) (by simp)
      rw [e4]
      exact ⟨_, _, rfl, by rw [List.length_set]; exact q2, h4.le (by omega)⟩
  · simp only [hp, decide_false, Bool.false_eq_true, if_false]
    exact ⟨_, _, rfl, q2, q1.le (by omega)⟩

theorem DrawSampleOf_is {c : List UInt8} (h : c.length ≤ 1099511627776) : ∃ v, spec_DrawSampleOf c = some v := by
  unfold spec_DrawSampleOf
  rw [From_is, Option.bind_some]
  obtain ⟨a, s1, e1, _, _, _, h1⟩ := pick_is (m := 800000000000) ((srcN_from h).le (by omega)) (n := 40) (by omega)
  obtain ⟨b, s2, e2, h2⟩ := one_is (m := 700000000000) (h1.le (by omega)) (n := 10) (by omega)
  have rest : ∀ (cnt : Int) (s2 : L00Src), SrcN 600000000000 s2 → ∃ v : Int × Int × Int, ((spec_l00Src_pick s2 20).bind fun y_5 => (spec_l00Src_one y_5.2 10).bind fun y_6 => if y_6.1 = true then
      (spec_l00Src_among y_6.2 ([(-1), 0, 100, 101] : List Int)).bind fun y_8 => (spec_l00Src_one y_8.2 10).bind fun y_9 => if y_9.1 = true then
        (spec_l00Src_among y_9.2 ([(-1), 0, 65535, 65536] : List Int)).bind fun y_11 => some (cnt, y_8.1, y_11.1) else (spec_l00Src_pick y_9.2 65536).bind fun y_12 => some (cnt, y_8.1, y_12.1)
      else (spec_l00Src_one y_6.2 10).bind fun y_13 => if y_13.1 = true then (spec_l00Src_among y_13.2 ([(-1), 0, 65535, 65536] : List Int)).bind fun y_15 => some (cnt, y_5.1, y_15.1) else (spec_l00Src_pick y_13.2 65536).bind fun y_16 => some (cnt, y_5.1, y_16.1)) = some v := by
    intro cnt s2 h2
    obtain ⟨d, s3, e3, _, _, _, h3⟩ := pick_is (m := 500000000000) (h2.le (by omega)) (n := 20) (by omega)
    obtain ⟨b3, s4, e4, h4⟩ := one_is (m := 400000000000) (h3.le (by omega)) (n := 10) (by omega)
    simp only [e3, e4, Option.bind_some]
    cases b3
    · obtain ⟨b5, s5, e5, h5⟩ := one_is (m := 300000000000) (h4.le (by omega)) (n := 10) (by omega)
      simp only [Bool.false_eq_true, if_false, e5, Option.bind_some]
      cases b5
      · obtain ⟨z, s6, e6, _⟩ := pick_is (m := 200000000000) (h5.le (by omega)) (n := 65536) (by omega)
        simp only [Bool.false_eq_true, if_false, e6, Option.bind_some]; exact ⟨_, rfl⟩
      · obtain ⟨z, s6, e6, _⟩ := among_is (m := 200000000000) (h5.le (by omega)) (l := [(-1), 0, 65535, 65536]) (by simp) (by simp)
        simp only [if_true, e6, Option.bind_some]; exact ⟨_, rfl⟩
    · obtain ⟨q, s7, e7, _, h7⟩ := among_is (m := 350000000000) (h4.le (by omega)) (l := [(-1), 0, 100, 101]) (by simp) (by simp)
      obtain ⟨b5, s5, e5, h5⟩ := one_is (m := 300000000000) (h7.le (by omega)) (n := 10) (by omega)
      simp only [if_true, e7, e5, Option.bind_some]
      cases b5
      · obtain ⟨z, s6, e6, _⟩ := pick_is (m := 200000000000) (h5.le (by omega)) (n := 65536) (by omega)
        simp only [Bool.false_eq_true, if_false, e6, Option.bind_some]; exact ⟨_, rfl⟩
      · obtain ⟨z, s6, e6, _⟩ := among_is (m := 200000000000) (h5.le (by omega)) (l := [(-1), 0, 65535, 65536]) (by simp) (by simp)
        simp only [if_true, e6, Option.bind_some]; exact ⟨_, rfl⟩
  simp only [e1, e2, Option.bind_some]
  cases b
  · simp only [Bool.false_eq_true, if_false]
    exact rest _ _ (h2.le (by omega))
  · obtain ⟨q, s7, e7, _, h7⟩ := among_is (m := 650000000000) (h2.le (by omega)) (l := [(-1), 0, 10000, 10001, 9223372036854775807]) (by simp) (by simp)
    simp only [if_true, e7, Option.bind_some]
    exact rest _ _ (h7.le (by omega))

/-- The indices of a sample rise, and lie within bounds. -/
theorem rises_loop {count many : Int} {l : List Int} (hl : l.length ≤ 100) (h1 : ∀ x, x ∈ l → 0 ≤ x ∧ x < count) (h2 : l.Pairwise (· < ·)) : whileE (laws_FnSampled_l3 count many l) 0 = some (.inl ()) := by
  have := while_all (step := laws_FnSampled_l3 count many l) (fun _ => true) l.length true (yes := .inl ()) (no := .inr false) (by simp) (fun i hi => by
    have hx := h1 _ (getD_mem hi default)
    have a1 : ¬ l.getD i default < 0 := by omega
    have a2 : ¬ count ≤ l.getD i default := by omega
    simp only [laws_FnSampled_l3, Int.ofNat_lt, hi, decide_true, if_true, ixOk_nat, ck_true, Int.toNat_natCast, wrap_nat1 (show i < 9223372036854775807 by omega), a1, a2, decide_false, Bool.or_self, Bool.not_false, Bool.true_and, Bool.false_or]
    by_cases h0 : 0 < i
    · have w1 : IntKind.i64.wrap ((i : Int) - 1) = ((i - 1 : Nat) : Int) := by rw [wrap_i64 (by omega) (by omega)]; omega
      have ok1 : ixOk ((i - 1 : Nat) : Int) l.length = true := by rw [ixOk_nat]; simp; omega
      have hlt : ¬ l.getD i default ≤ l.getD (i - 1) default := by
        have := List.pairwise_iff_getElem.1 h2 (i - 1) i (by omega) hi (by omega)
        rw [getD_lt hi, getD_lt (show i - 1 < l.length by omega)]
        omega
      have e0 : decide ((0 : Int) < (i : Int)) = true := by simpa using h0
      simp only [e0, w1, ok1, Bool.or_true, ck_true, Int.toNat_natCast, hlt, decide_false, Bool.and_false, Bool.false_eq_true, if_false]
    · have e0 : decide ((0 : Int) < (i : Int)) = false := by simpa using h0
      simp only [e0, Bool.not_false, Bool.true_or, ck_true, Bool.false_and, Bool.false_eq_true, if_false]) (by simp [laws_FnSampled_l3])
  simpa using this

theorem rises4 : laws_FnSampled_l4 = laws_FnSampled_l3 := id rfl
theorem rises5 : laws_FnSampled_l5 = laws_FnSampled_l3 := id rfl
theorem rises6 : laws_FnSampled_l6 = laws_FnSampled_l3 := id rfl

theorem fresh_loop {a b c : Int} {d : List Int} {e : List Fault} {f : Int} {g : List Int} {h : List Fault} {l : List Fault} {k : Int} (hl : l.length ≤ 1048576) : whileE (laws_FnSampled_l1 a b c d e f g h l k l) 0 = some (.inl ()) := by
  have := while_all (step := laws_FnSampled_l1 a b c d e f g h l k l) (fun _ => true) l.length true (yes := .inl ()) (no := .inr false) (by simp) (fun i hi => by
    simp only [laws_FnSampled_l1, Int.ofNat_lt, hi, decide_true, if_true, ixOk_nat, ck_true, Int.toNat_natCast, wrap_nat1 (show i < 9223372036854775807 by omega), beq_self_eq_true, Bool.and_self, Bool.not_true, Bool.false_eq_true, if_false]) (by simp [laws_FnSampled_l1])
  simpa using this

theorem sum_take {l : List Int} {i : Nat} (h : i < l.length) : (l.take (i + 1)).sum = (l.take i).sum + l.getD i default := by
  rw [List.take_succ_eq_append_getElem h, List.sum_append, getD_lt h]; simp

theorem sum_loop {a b c : Int} {e f : List Fault} {g : Int} {g' : List Int} {l : List Int} {N : Nat} (hN : N ≤ 1048576) (hl : l.length ≤ 5) (h : ∀ x, x ∈ l → 0 ≤ x ∧ x ≤ N) : whileE (laws_FnSampled_l2 a b c g' e l f g) (0, 0) = some l.sum := by
  have hb : ∀ i, i ≤ l.length → 0 ≤ (l.take i).sum ∧ (l.take i).sum ≤ 1048576 * i := by
    intro i
    induction i with
    | zero => intro _; simp
    | succ i ih =>
      intro hi
      have := ih (by omega)
      rw [sum_take (by omega)]
      have := h _ (getD_mem (show i < l.length by omega) default)
      omega
  have := while_up (step := laws_FnSampled_l2 a b c g' e l f g) (fun i => (l.take i).sum) l.length (r := l.sum) (fun i hi => by
    have h1 := hb i (by omega)
    have h2 := h _ (getD_mem hi default)
    simp only [laws_FnSampled_l2, Int.ofNat_lt, hi, decide_true, if_true, ixOk_nat, ck_true, Int.toNat_natCast, wrap_nat1 (show i < 9223372036854775807 by omega)]
    rw [wrap_i64 (by omega) (by omega), sum_take hi]) (by simp [laws_FnSampled_l2])
  simpa using this

theorem law_Sampled {code : List UInt8} (w : code.length ≤ maxLen) : laws_FnSampled code = some true := by
  unfold laws_FnSampled laws_f6big
  simp only [Option.bind_some]
  by_cases hb : 4096 < (code.length : Int)
  · rw [if_pos (by simpa using hb)]
  · rw [if_neg (by simpa using hb)]
    have hc : code.length ≤ 1099511627776 := by omega
    obtain ⟨⟨count, many, seed⟩, d1⟩ := DrawSampleOf_is hc
    obtain ⟨f, s1, e1, hf, k1⟩ := l26Draw_is (m := 800000000000) ((srcN_from hc).le (by omega))
    have d2 : spec_DrawCountFaults code = some f := by unfold spec_DrawCountFaults; rw [From_is, Option.bind_some, e1]; rfl
    obtain ⟨p, q, d3, hp, hq⟩ : ∃ p q, spec_DrawNewFaults code = some (p, q) ∧ p.length ≤ 24 ∧ q.length ≤ 24 := by
      unfold spec_DrawNewFaults
      rw [From_is, Option.bind_some, e1, Option.bind_some]
      obtain ⟨b, s2, e2, h2⟩ := one_is (m := 700000000000) (k1.le (by omega)) (n := 3) (by omega)
      rw [e2, Option.bind_some]
      cases b
      · obtain ⟨g, s3, e3, hg, _⟩ := l26Draw_is (m := 600000000000) (h2.le (by omega))
        simp only [Bool.false_eq_true, if_false, e3, Option.bind_some]
        exact ⟨_, _, rfl, hf, hg⟩
      · exact ⟨_, _, rfl, hf, hf⟩
    obtain ⟨l, c, l1, a1, a2, a3⟩ := SampleOf_same count many seed
    obtain ⟨cl, cc, c1, b1, b2, b3⟩ := CountFaults_same (f := f) (by omega)
    obtain ⟨nl, nc, n1, m1, m2, m3⟩ := NewFaults_same (b := p) (n := q) (by omega) (by omega)
    simp only [d1, d2, d3, a1, a2, b1, b2, m1, m2, Option.bind_some, f6ints_is (show l.length ≤ 1099511627776 by omega), f6ints_is (show cl.length ≤ 1099511627776 by omega), beq_self_eq_true, Bool.not_true, Bool.not_false, Bool.or_self, Bool.or_true, Option.isSome_some, Option.getD_some, ck_true, decide_true, Bool.false_eq_true, if_false, fresh_loop n1, rises4, rises5, rises6]
    have last : (if (!(c == 0)) = true then some true else (whileE (laws_FnSampled_l3 count many l) 0).bind fun y_33 =>
        match y_33 with
        | .inl y_33a => some ((l.length : Int) == many)
        | .inr y_33b => some y_33b) = some true := by
      by_cases hz : c = 0
      · obtain ⟨q1, q2, q3⟩ := a3 hz
        rw [if_neg (by simp [hz]), rises_loop l1 q2 q3]
        simp [q1]
      · rw [if_pos (by simpa using hz)]
    have mid : (if (nc == 0) = true then (impl_NewFaults q q).bind fun y_26 =>
              if ((!(y_26.2 == 0)) || (!((y_26.1.length : Int) == 0))) = true then some false
              else if (!(c == 0)) = true then some true
                else (whileE (laws_FnSampled_l3 count many l) 0).bind fun y_33 =>
                  match y_33 with
                  | .inl y_33a => some ((l.length : Int) == many)
                  | .inr y_33b => some y_33b
            else if (!(c == 0)) = true then some true
              else (whileE (laws_FnSampled_l3 count many l) 0).bind fun y_39 =>
                match y_39 with
                | .inl y_39a => some ((l.length : Int) == many)
                | .inr y_39b => some y_39b) = some true := by
      by_cases hn : nc = 0
      · rw [if_pos (by simpa using hn), m3 hn, Option.bind_some]
        exact last
      · rw [if_neg (by simpa using hn)]; exact last
    by_cases hz : cc = 0
    · obtain ⟨q1, q2⟩ := b3 hz
      rw [if_pos (by simpa using hz), sum_loop (N := f.length) (by omega) c1 q2, Option.bind_some, if_neg (by simp [q1])]
      exact mid
    · rw [if_neg (by simpa using hz)]; exact mid

end Go.Proofs.Ytpjpfdoaemoddaa
