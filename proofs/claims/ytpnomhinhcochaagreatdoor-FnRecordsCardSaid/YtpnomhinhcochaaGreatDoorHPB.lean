/- Plain lemmas, several texts in one. No condition. -/
import Derived.Test.YtpnomhinhcochaaGreatDoorHPA
/- What typed forms say: the texts of estimates, of the program. No condition. -/
namespace Go.Proofs.YtpnomhinhcochaaGreatDoor
open Go Go.RowKit
set_option linter.unusedSimpArgs false
set_option linter.unusedVariables false

theorem oneE_parts {e : Estimate} (h : oneE e = true) : 0 ≤ e.Time ∧ e.Time ≤ 10000000 ∧ nameB e.Star = true ∧ nameB e.Observer = true ∧ -2000 ≤ e.Mag ∧ e.Mag ≤ 20000 := by
  unfold oneE at h
  simp only [Bool.and_eq_true, decide_eq_true_eq] at h
  exact ⟨h.1.1.1.1, h.1.1.1.2, h.1.1.2, h.1.2, h.2.1, h.2.2⟩

theorem nameB_len {s : List UInt8} (h : nameB s = true) : s.length ≤ 12 := by
  unfold nameB at h
  simp only [Bool.and_eq_true, decide_eq_true_eq] at h
  exact h.2.1

theorem nameB_no {s : List UInt8} (h : nameB s = true) : ∀ c, c ∈ s → c ≠ 32 ∧ c ≠ 10 := by
  intro c hc
  unfold nameB at h
  simp only [Bool.and_eq_true] at h
  obtain ⟨i, hi, rfl⟩ := List.getElem_of_mem hc
  have := all_range.1 h.2.2 i hi
  rw [getD_lt hi] at this
  unfold okc at this
  constructor
  · intro e; rw [e] at this; revert this; cases (i == 0) <;> decide
  · intro e; rw [e] at this; revert this; cases (i == 0) <;> decide

theorem d3_no (n : Nat) (h : n ≤ 999) : ∀ c, c ∈ d3 n → c ≠ 32 ∧ c ≠ 10 := by
  have dgn : ∀ k : Fin 10, dg k.val ≠ 32 ∧ dg k.val ≠ 10 := by decide +kernel
  intro c hc
  simp only [d3, List.mem_cons, List.not_mem_nil, or_false] at hc
  rcases hc with rfl | rfl | rfl
  · exact dgn ⟨n / 100, by omega⟩
  · exact dgn ⟨n / 10 % 10, by omega⟩
  · exact dgn ⟨n % 10, by omega⟩

theorem dec_no (u : Nat) : ∀ c, c ∈ Lib.decDigits u → c ≠ 32 ∧ c ≠ 10 := fun c hc => by
  have := decDigits_all u c hc
  constructor <;> (rintro rfl; simp at this)

theorem magT_no (m : Int) : ∀ c, c ∈ magT m → c ≠ 32 ∧ c ≠ 10 := by
  intro c hc
  unfold magT at hc
  simp only [List.mem_append] at hc
  rcases hc with ((hc | hc) | hc) | hc
  · split at hc
    · rw [List.mem_singleton.1 hc]; decide
    · simp at hc
  · exact dec_no _ c hc
  · rw [List.mem_singleton.1 hc]; decide
  · exact d3_no _ (by omega) c hc

theorem timeT_no {n : Int} (h : 0 ≤ n) : ∀ c, c ∈ Lib.itoa n → c ≠ 32 ∧ c ≠ 10 := by
  obtain ⟨u, rfl⟩ := Int.eq_ofNat_of_zero_le h
  rw [itoa_nat]; exact dec_no u

def magW (e : Estimate) : List UInt8 := (if e.Fainter then ([60] : List UInt8) else []) ++ magT e.Mag

theorem magW_no (e : Estimate) : ∀ c, c ∈ magW e → c ≠ 32 ∧ c ≠ 10 := by
  intro c hc
  unfold magW at hc
  rcases List.mem_append.1 hc with hc | hc
  · split at hc
    · rw [List.mem_singleton.1 hc]; decide
    · simp at hc
  · exact magT_no _ c hc

def wordsE (e : Estimate) : List (List UInt8) := [Lib.itoa e.Time, e.Star, e.Observer, magW e]

def lineE (e : Estimate) : List UInt8 := joinOn 32 (wordsE e)

theorem lineE_eq (e : Estimate) : lineE e = Lib.itoa e.Time ++ 32 :: (e.Star ++ 32 :: (e.Observer ++ 32 :: magW e)) := rfl

theorem lineE_len {e : Estimate} (h : oneE e = true) : (lineE e).length ≤ 90 := by
  obtain ⟨t0, t1, s, o, m0, m1⟩ := oneE_parts h
  have l1 := itoa_len (n := e.Time) ⟨by omega, by omega⟩
  have l2 := nameB_len s
  have l3 := nameB_len o
  have l4 := magT_len m0 m1
  rw [lineE_eq]
  unfold magW
  simp only [List.length_append, List.length_cons]
  split <;> simp <;> omega

theorem wordsE_no {e : Estimate} (h : oneE e = true) : ∀ p ∈ wordsE e, ∀ c, c ∈ p → c ≠ 32 ∧ c ≠ 10 := by
  obtain ⟨t0, t1, s, o, m0, m1⟩ := oneE_parts h
  intro p hp
  simp only [wordsE, List.mem_cons, List.not_mem_nil, or_false] at hp
  rcases hp with rfl | rfl | rfl | rfl
  · exact timeT_no t0
  · exact nameB_no s
  · exact nameB_no o
  · exact magW_no e

theorem lineE_split {e : Estimate} (h : oneE e = true) : splitOn 32 (lineE e) = wordsE e :=
  split_join 32 (wordsE e) (by simp [wordsE]) fun p hp hc => (wordsE_no h p hp 32 hc).1 rfl

theorem lineE_no {e : Estimate} (h : oneE e = true) : (10 : UInt8) ∉ lineE e := by
  have hw := wordsE_no h
  intro hc
  rw [lineE_eq] at hc
  simp only [List.mem_append, List.mem_cons] at hc
  rcases hc with hc | hc | hc | hc | hc | hc | hc
  · exact (hw _ (by simp [wordsE]) _ hc).2 rfl
  · exact absurd hc (by decide)
  · exact (hw e.Star (by simp [wordsE]) _ hc).2 rfl
  · exact absurd hc (by decide)
  · exact (hw e.Observer (by simp [wordsE]) _ hc).2 rfl
  · exact absurd hc (by decide)
  · exact (hw (magW e) (by simp [wordsE]) _ hc).2 rfl

theorem join_lineE (e : Estimate) : Lib.join (wordsE e) [32] = lineE e := by
  simp [wordsE, Lib.join, List.intercalate, lineE, joinOn]

theorem line_isE {e : Estimate} (h : oneE e = true) : impl_Estimate_line e = some (lineE e) := by
  obtain ⟨t0, t1, s, o, m0, m1⟩ := oneE_parts h
  have hl := lineE_len h
  have lm := magT_len m0 m1
  have hj : hJoin (wordsE e) [32] = some (lineE e) := by
    unfold hJoin joinOk
    rw [join_lineE, if_pos]
    simp [wordsE]; omega
  unfold impl_Estimate_line
  rw [MagText_is m0 m1, Decimal_is ⟨by omega, by omega⟩]
  simp only [Option.bind_some]
  unfold wordsE magW at hj
  cases hf : e.Fainter
  · rw [hf] at hj
    simp only [Bool.false_eq_true, if_false, List.nil_append] at hj
    rw [if_neg Bool.false_ne_true, hj]; rfl
  · rw [hf] at hj
    simp only [if_true] at hj
    rw [if_pos rfl, catOk_of (by simp; omega), ck_true, hj]; rfl

def textE : List Estimate → List UInt8
  | [] => []
  | e :: r => lineE e ++ 10 :: textE r

theorem textE_len : ∀ l : List Estimate, (∀ e, e ∈ l → oneE e = true) → (textE l).length ≤ 91 * l.length
  | [], _ => by simp [textE]
  | e :: r, h => by
    have := lineE_len (h e (by simp))
    have ih := textE_len r fun x hx => h x (by simp [hx])
    simp only [textE, List.length_append, List.length_cons]
    omega

theorem text_loopE : ∀ (l : List Estimate) (acc : List UInt8), (∀ e, e ∈ l → oneE e = true) → acc.length + 91 * l.length ≤ 1000000 → impl_EstimatesText_l acc l = some (acc ++ textE l)
  | [], acc, _, _ => by simp [impl_EstimatesText_l, textE]
  | e :: r, acc, h, ha => by
    have he := h e (by simp)
    have hl := lineE_len he
    simp only [List.length_cons] at ha
    rw [impl_EstimatesText_l, line_isE he, Option.bind_some, show decide (acc.length + (lineE e).length + 1 ≤ 140737488355328) = true from decide_eq_true (by omega), ck_true,
      text_loopE r _ (fun x hx => h x (by simp [hx])) (by simp only [List.length_append, List.length_singleton]; omega)]
    simp [textE]

theorem goodE_mem {l : List Estimate} (h : goodE l = true) : ∀ e, e ∈ l → oneE e = true := by
  intro e he
  obtain ⟨i, hi, rfl⟩ := List.getElem_of_mem he
  unfold goodE at h
  have := all_range' h hi
  unfold okE at this
  rw [getD_lt hi] at this
  exact (Bool.and_eq_true_iff.1 this).1

theorem EstText_is {l : List Estimate} (hg : goodE l = true) (hl : l.length ≤ 100) : impl_EstimatesText l = some (textE l) := by
  have e1 : decide (l.length ≤ 100) = true := decide_eq_true hl
  unfold impl_EstimatesText
  rw [ValidEstimates_is (by omega), hg, e1]
  simp only [Option.bind_some, Bool.and_self, Bool.not_true, Bool.false_eq_true, if_false]
  rw [show decide (l.length ≤ 1099511627776) = true from decide_eq_true (by omega), ck_true, text_loopE l [] (goodE_mem hg) (by simp; omega)]
  rfl

theorem cut_magW {e : Estimate} : cutP 60 (magW e) = (magT e.Mag, e.Fainter) := by
  unfold magW
  cases hf : e.Fainter
  · simp only [Bool.false_eq_true, if_false, List.nil_append]
    obtain ⟨c0, r0, hc, hcd⟩ := decDigits_cons (e.Mag.natAbs / 1000)
    unfold magT
    split
    · simp [cutP]
    · have hx := not_dig (c := 60) hcd (.inr (by decide))
      rw [hc]; simp [cutP, hx]
  · simp [cutP]

theorem read_step {s : List UInt8} {e : Estimate} {done r : List Estimate} (he : oneE e = true) (hr : ∀ x, x ∈ r → oneE x = true) (hl : done.length + r.length < 100) :
    impl_ReadEstimates_l1 s (done, lineE e ++ 10 :: textE r) = some (.inl (done ++ [e], textE r)) := by
  obtain ⟨t0, t1, hs, ho, m0, m1⟩ := oneE_parts he
  have hll := lineE_len he
  have htl := textE_len r hr
  have hml := magT_len m0 m1
  have hw4 : (wordsE e).length = 4 := rfl
  have hne : ((lineE e ++ 10 :: textE r) == ([] : List UInt8)) = false := by rw [beq_eq_false_iff_ne]; simp
  have hcut : hCut (lineE e ++ 10 :: textE r) [10] = some (lineE e, textE r, true) := by
    rw [hCut_one (by simp only [List.length_append, List.length_cons]; omega), cut_yes (lineE_no he)]
  have hsp : hSplit (lineE e) [32] = some (wordsE e) := by rw [hSplit_one (by omega), lineE_split he]
  have hcp : strings_CutPrefix (magW e) [60] = some (magT e.Mag, e.Fainter) := by
    rw [CutPrefix_is 60 (by unfold magW; simp only [List.length_append]; split <;> simp <;> omega), cut_magW]
  have hrd : hRdDec (Lib.itoa e.Time) = some (e.Time, true) := by
    have l1 := itoa_len (n := e.Time) ⟨by omega, by omega⟩
    unfold hRdDec
    rw [if_pos (by omega), rdDec_any (by omega) (by omega)]
  have e4 : (((wordsE e).length : Int) == 4) = true := rfl
  have e5 : ((done.length : Int) == 100) = false := by rw [beq_eq_false_iff_ne]; omega
  have w0 : (wordsE e).getD 0 default = Lib.itoa e.Time := rfl
  have w1 : (wordsE e).getD 1 default = e.Star := rfl
  have w2 : (wordsE e).getD 2 default = e.Observer := rfl
  have w3 : (wordsE e).getD 3 default = magW e := rfl
  simp only [impl_ReadEstimates_l1, hne, Bool.not_false, if_true, hcut, Option.bind_some, hsp, e4, e5, Bool.not_true, Bool.or_self, Bool.false_eq_true, if_false, show ixOk 3 (wordsE e).length = true from rfl, show ixOk 0 (wordsE e).length = true from rfl, show ixOk 1 (wordsE e).length = true from rfl, show ixOk 2 (wordsE e).length = true from rfl, ck_true, w0, w1, w2, w3, hcp, hrd, ReadMag_is m0 m1]
  rw [appOk_of (by simp; omega), ck_true]

theorem read_loopE {s : List UInt8} : ∀ (r done : List Estimate), (∀ x, x ∈ r → oneE x = true) → done.length + r.length ≤ 100 → whileE (impl_ReadEstimates_l1 s) (done, textE r) = some (.inl (done ++ r))
  | [], done, _, _ => by
    refine whileE_done ?_
    simp [impl_ReadEstimates_l1, textE]
  | e :: r, done, h, hl => by
    simp only [List.length_cons] at hl
    have hr : ∀ x, x ∈ r → oneE x = true := fun x hx => h x (by simp [hx])
    rw [textE, whileE_next (read_step (h e (by simp)) hr (by omega)), read_loopE r _ hr (by simp; omega)]
    simp

theorem ReadEst_is {l : List Estimate} (hg : goodE l = true) (hl : l.length ≤ 100) : impl_ReadEstimates (textE l) = some (l, true) := by
  have e1 : decide (l.length ≤ 100) = true := decide_eq_true hl
  unfold impl_ReadEstimates
  rw [read_loopE l [] (goodE_mem hg) (by simp; omega)]
  simp only [Option.bind_some, List.nil_append]
  rw [ValidEstimates_is (by omega), EstText_is hg hl, hg, e1]
  simp [ck_true]

end Go.Proofs.YtpnomhinhcochaaGreatDoor

/- What typed forms say: an estimate's place in a list, of the program. No condition. -/
namespace Go.Proofs.YtpnomhinhcochaaGreatDoor
open Go Go.RowKit
set_option linter.unusedSimpArgs false
set_option linter.unusedVariables false

theorem blE_lt : ∀ a b : List UInt8, Op.bytesLess a b = decide (a < b)
  | [], [] => rfl
  | [], _ :: _ => by simp [Op.bytesLess]
  | _ :: _, [] => by simp [Op.bytesLess]
  | x :: a, y :: b => by
    have ih := blE_lt a b
    rw [Op.bytesLess, ih, Bool.eq_iff_iff]
    simp [List.cons_lt_cons_iff]

theorem ltE_irr (a : List UInt8) : ¬ a < a := List.lt_irrefl a
theorem ltE_tr {a b c : List UInt8} (h1 : a < b) (h2 : b < c) : a < c := List.lt_trans h1 h2
theorem ltE_tri (a b : List UInt8) : a < b ∨ a = b ∨ b < a := by
  by_cases h : a < b
  · exact .inl h
  · by_cases h2 : b < a
    · exact .inr (.inr h2)
    · exact .inr (.inl (List.le_antisymm (List.not_lt.1 h2) (List.not_lt.1 h)))

def ltK (a b : Estimate) : Prop := a.Time < b.Time ∨ (a.Time = b.Time ∧ (a.Star < b.Star ∨ (a.Star = b.Star ∧ a.Observer < b.Observer)))
def eqK (a b : Estimate) : Prop := a.Time = b.Time ∧ a.Star = b.Star ∧ a.Observer = b.Observer

theorem before_iff (a b : Estimate) : beforeE a b = true ↔ ltK a b := by
  unfold beforeE ltK
  by_cases h1 : a.Time = b.Time
  · rw [if_pos h1]
    by_cases h2 : a.Star = b.Star
    · rw [if_pos h2, blE_lt, decide_eq_true_eq]
      exact ⟨fun h => .inr ⟨h1, .inr ⟨h2, h⟩⟩, fun h => by
        rcases h with h | ⟨_, h | h⟩
        · omega
        · rw [h2] at h; exact absurd h (ltE_irr _)
        · exact h.2⟩
    · rw [if_neg h2, blE_lt, decide_eq_true_eq]
      exact ⟨fun h => .inr ⟨h1, .inl h⟩, fun h => by
        rcases h with h | ⟨_, h | h⟩
        · omega
        · exact h
        · exact absurd h.1 h2⟩
  · rw [if_neg h1, decide_eq_true_eq]
    exact ⟨fun h => .inl h, fun h => by
      rcases h with h | h
      · exact h
      · exact absurd h.1 h1⟩

theorem ltK_tr {a b c : Estimate} (h1 : ltK a b) (h2 : ltK b c) : ltK a c := by
  unfold ltK at *
  rcases h1 with h1 | ⟨e1, h1⟩
  · rcases h2 with h2 | ⟨e2, _⟩
    · exact .inl (by omega)
    · exact .inl (by omega)
  · rcases h2 with h2 | ⟨e2, h2⟩
    · exact .inl (by omega)
    · refine .inr ⟨by omega, ?_⟩
      rcases h1 with h1 | ⟨f1, h1⟩
      · rcases h2 with h2 | ⟨f2, _⟩
        · exact .inl (ltE_tr h1 h2)
        · exact .inl (f2 ▸ h1)
      · rcases h2 with h2 | ⟨f2, h2⟩
        · exact .inl (f1 ▸ h2)
        · exact .inr ⟨f1.trans f2, ltE_tr h1 h2⟩

theorem ltK_irr (a : Estimate) : ¬ ltK a a := by
  rintro (h | ⟨_, h | ⟨_, h⟩⟩)
  · omega
  · exact ltE_irr _ h
  · exact ltE_irr _ h

theorem ltK_tri (a b : Estimate) : ltK a b ∨ eqK a b ∨ ltK b a := by
  unfold ltK eqK
  rcases Int.lt_trichotomy a.Time b.Time with h | h | h
  · exact .inl (.inl h)
  · rcases ltE_tri a.Star b.Star with h2 | h2 | h2
    · exact .inl (.inr ⟨h, .inl h2⟩)
    · rcases ltE_tri a.Observer b.Observer with h3 | h3 | h3
      · exact .inl (.inr ⟨h, .inr ⟨h2, h3⟩⟩)
      · exact .inr (.inl ⟨h, h2, h3⟩)
      · exact .inr (.inr (.inr ⟨h.symm, .inr ⟨h2.symm, h3⟩⟩))
    · exact .inr (.inr (.inr ⟨h.symm, .inl h2⟩))
  · exact .inr (.inr (.inl h))

theorem eqK_lt {a b : Estimate} (h : eqK a b) : ¬ ltK a b := by
  obtain ⟨h1, h2, h3⟩ := h
  rintro (h | ⟨_, h | ⟨_, h⟩⟩)
  · omega
  · rw [h2] at h; exact ltE_irr _ h
  · rw [h3] at h; exact ltE_irr _ h

theorem goodE_lt {l : List Estimate} (hg : goodE l = true) {i : Nat} (hi : i + 1 < l.length) : ltK (l.getD i default) (l.getD (i + 1) default) := by
  unfold goodE at hg
  have := all_range' hg hi
  unfold okE at this
  simp only [Nat.add_sub_cancel, Bool.and_eq_true, Bool.not_eq_true'] at this
  rw [← before_iff]
  have h2 := this.2
  have e : decide (0 < i + 1) = true := decide_eq_true (by omega)
  rw [e, Bool.true_and] at h2
  simpa using h2

theorem goodE_up {l : List Estimate} (hg : goodE l = true) : ∀ (d i : Nat), i + d + 1 < l.length → ltK (l.getD i default) (l.getD (i + d + 1) default)
  | 0, i, h => goodE_lt hg h
  | d + 1, i, h => ltK_tr (goodE_up hg d i (by omega)) (goodE_lt hg (i := i + d + 1) h)

theorem goodE_up' {l : List Estimate} (hg : goodE l = true) {i j : Nat} (hij : i < j) (hj : j < l.length) : ltK (l.getD i default) (l.getD j default) := by
  have := goodE_up hg (j - i - 1) i (by omega)
  rwa [show i + (j - i - 1) + 1 = j by omega] at this

/-- The comparison is 0 just at equal keys. -/
theorem compareE_0 (a b : Estimate) : ∃ c, impl_compareEstimates a b = some c ∧ decide (c < 0) = beforeE a b ∧ ((c == 0) = true ↔ eqK a b) := by
  obtain ⟨c, hc, hb⟩ := compareE_is a b
  refine ⟨c, hc, hb, ?_⟩
  unfold impl_compareEstimates at hc
  simp only [CompareInt_is, Compare_is, Or_is, Option.bind_some, Option.some.injEq] at hc
  obtain ⟨_, s2⟩ := bytes_cmp a.Star b.Star
  obtain ⟨_, o2⟩ := bytes_cmp a.Observer b.Observer
  have s3 : Lib.compareBytes a.Star b.Star = 0 ↔ a.Star = b.Star := by
    rw [← beq_iff_eq, s2, beq_iff_eq]
  have o3 : Lib.compareBytes a.Observer b.Observer = 0 ↔ a.Observer = b.Observer := by
    rw [← beq_iff_eq, o2, beq_iff_eq]
  rw [beq_iff_eq, ← hc]
  unfold eqK
  by_cases h1 : a.Time < b.Time
  · simp only [h1, if_true]
    constructor
    · intro h; simp at h
    · intro h; omega
  · by_cases h2 : b.Time < a.Time
    · simp only [h1, h2, if_true, if_false]
      constructor
      · intro h; simp at h
      · intro h; omega
    · simp only [h1, h2, if_false, ne_eq, not_true_eq_false]
      have ht : a.Time = b.Time := by omega
      by_cases h3 : Lib.compareBytes a.Star b.Star = 0
      · simp only [h3, not_true_eq_false, if_false]
        have hs := s3.1 h3
        by_cases h4 : Lib.compareBytes a.Observer b.Observer = 0
        · simp only [h4, not_true_eq_false, if_false]
          exact ⟨fun _ => ⟨ht, hs, o3.1 h4⟩, fun _ => trivial⟩
        · simp only [h4, not_false_eq_true, if_true]
          exact ⟨fun h => h.elim, fun h => h4 (o3.2 h.2.2)⟩
      · simp only [h3, not_false_eq_true, if_true]
        exact ⟨fun h => h.elim, fun h => h3 (s3.2 h.2.1)⟩

/-- The place of an estimate: all ahead of it are before it, none behind it is. -/
def placedE (l : List Estimate) (e : Estimate) (k : Nat) : Prop := k ≤ l.length ∧ (∀ i, i < k → ltK (l.getD i default) e) ∧ ∀ i, k ≤ i → i < l.length → ¬ ltK (l.getD i default) e

theorem mid_is {i j n : Nat} (hij : i < j) (hj : j ≤ n) (hn : n ≤ 1000000) : IntKind.i64.wrap ((IntKind.u64.wrap (IntKind.i64.wrap ((i : Int) + (j : Int)))).fdiv (2 ^ (min 1 64))) = (((i + j) / 2 : Nat) : Int) := by
  rw [wrap_i64 (n := (i : Int) + (j : Int)) (by omega) (by omega)]
  have : IntKind.u64.wrap ((i : Int) + (j : Int)) = (i : Int) + (j : Int) := by
    have := IntKind.wrap_u64 ((i : Int) + (j : Int))
    rw [this]; omega
  rw [this, show (2 : Int) ^ (min 1 64) = 2 from rfl, Int.fdiv_eq_ediv_of_nonneg _ (by omega), wrap_i64 (by omega) (by omega)]
  omega

theorem bs_loop {l : List Estimate} {e : Estimate} (hg : goodE l = true) (hl : l.length ≤ 1000000) : ∀ (m i j : Nat), j - i ≤ m → i ≤ j → j ≤ l.length → (∀ a, a < i → ltK (l.getD a default) e) → (∀ a, j ≤ a → a < l.length → ¬ ltK (l.getD a default) e) →
    ∃ k : Nat, whileE (slices_BinarySearchFunc_impl_Estimate_impl_Estimate_impl_Estimate__impl_compareEstimates_l1 l e (l.length : Int)) ((i : Int), (j : Int)) = some (k : Int) ∧ placedE l e k
  | 0, i, j, hm, hij, hj, h1, h2 => by
    have hij : i = j := by omega
    subst hij
    exact ⟨i, whileE_done (by simp [slices_BinarySearchFunc_impl_Estimate_impl_Estimate_impl_Estimate__impl_compareEstimates_l1]), hj, h1, h2⟩
  | m + 1, i, j, hm, hij, hj, h1, h2 => by
    by_cases hlt : i < j
    · have hk : (i + j) / 2 < l.length := by omega
      obtain ⟨c, hc, hb, _⟩ := compareE_0 (l.getD ((i + j) / 2) default) e
      have hs : slices_BinarySearchFunc_impl_Estimate_impl_Estimate_impl_Estimate__impl_compareEstimates_l1 l e (l.length : Int) ((i : Int), (j : Int)) = some (if decide (c < 0) = true then .inl ((((i + j) / 2 + 1 : Nat) : Int), (j : Int)) else .inl ((i : Int), (((i + j) / 2 : Nat) : Int))) := by
        simp only [slices_BinarySearchFunc_impl_Estimate_impl_Estimate_impl_Estimate__impl_compareEstimates_l1]
        rw [if_pos (decide_eq_true (by omega)), shOk_of (by decide), ck_true, mid_is hlt hj hl, ixOk_nat, decide_eq_true hk, ck_true, Int.toNat_natCast, hc]
        simp only [Option.bind_some]
        rw [wrap_nat1 (by omega)]
        split <;> rfl
      cases hcn : decide (c < 0) with
      | true =>
        rw [hcn] at hs hb
        rw [whileE_next hs]
        have hk2 := (before_iff _ _).1 hb.symm
        refine bs_loop hg hl m ((i + j) / 2 + 1) j (by omega) (by omega) hj (fun a ha => ?_) h2
        rcases Nat.lt_or_ge a ((i + j) / 2) with h | h
        · exact ltK_tr (goodE_up' hg h hk) hk2
        · obtain rfl : a = (i + j) / 2 := by omega
          exact hk2
      | false =>
        rw [hcn] at hs hb
        rw [whileE_next hs]
        have hk2 : ¬ ltK (l.getD ((i + j) / 2) default) e := fun h => by
          rw [(before_iff _ _).2 h] at hb; exact Bool.noConfusion hb
        refine bs_loop hg hl m i ((i + j) / 2) (by omega) (by omega) (by omega) h1 (fun a ha hal h => ?_)
        rcases Nat.lt_or_ge ((i + j) / 2) a with c | c
        · exact hk2 (ltK_tr (goodE_up' hg c hal) h)
        · obtain rfl : a = (i + j) / 2 := by omega
          exact hk2 h
    · exact bs_loop hg hl m i j (by omega) hij hj h1 h2

theorem bs_is {l : List Estimate} (e : Estimate) (hg : goodE l = true) (hl : l.length ≤ 1000000) :
    ∃ (k : Nat) (f : Bool), slices_BinarySearchFunc_impl_Estimate_impl_Estimate_impl_Estimate__impl_compareEstimates l e = some ((k : Int), f) ∧ placedE l e k ∧ (f = true ↔ k < l.length ∧ eqK (l.getD k default) e) := by
  obtain ⟨k, hw, hp⟩ := bs_loop (e := e) hg hl l.length 0 l.length (by omega) (by omega) (Nat.le_refl _) (fun a ha => absurd ha (by omega)) (fun a h1 h2 => absurd h2 (by omega))
  have hw : whileE (slices_BinarySearchFunc_impl_Estimate_impl_Estimate_impl_Estimate__impl_compareEstimates_l1 l e (l.length : Int)) (0, (l.length : Int)) = some (k : Int) := hw
  obtain ⟨c, hc, _, h0⟩ := compareE_0 (l.getD k default) e
  unfold slices_BinarySearchFunc_impl_Estimate_impl_Estimate_impl_Estimate__impl_compareEstimates
  rw [hw]
  simp only [Option.bind_some, Int.toNat_natCast, hc, Option.isSome_some, Option.getD_some, Bool.or_true, ck_true]
  have e1 : decide ((k : Int) < (l.length : Int)) = decide (k < l.length) := by rw [Bool.eq_iff_iff]; simp
  refine ⟨k, decide (k < l.length) && (c == 0), ?_, hp, ?_⟩
  · rw [e1, ixOk_nat]
    cases decide (k < l.length) <;> simp [ck_true]
  · rw [Bool.and_eq_true, decide_eq_true_eq, h0]

end Go.Proofs.YtpnomhinhcochaaGreatDoor

