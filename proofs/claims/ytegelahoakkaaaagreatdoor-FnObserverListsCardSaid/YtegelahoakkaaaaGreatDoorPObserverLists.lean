/- The plain law of FnObserverLists. No condition. -/
import Derived.Test.YtegelahoakkaaaaGreatDoorHPB
import Derived.Test.YtegelahoakkaaaaGreatDoorHPC
namespace Go.Proofs.YtegelahoakkaaaaGreatDoor
open Go Go.RowKit
set_option linter.unusedSimpArgs false
set_option linter.unusedVariables false

/-! ### Equal lists -/

theorem eqO (x y : Observer) : ((x.Name == y.Name) && (x.Shift == y.Shift)) = (x == y) := by
  rw [Bool.eq_iff_iff]
  cases x; cases y
  simp [Observer.mk.injEq]

theorem SameO_is {a b : List Observer} (h : a.length ≤ 1099511627776) : spec_SameObservers a b = some (decide (a = b)) := by
  unfold spec_SameObservers
  by_cases hl : a.length = b.length
  · have e : (!((a.length : Int) == (b.length : Int))) = false := by simp [hl]
    rw [e]
    simp only [Bool.false_eq_true, if_false]
    rw [while_all (step := spec_SameObservers_l1 a b) (fun i => a.getD i default == b.getD i default) a.length (decide (a = b)) (yes := .inl ()) (no := .inr false) (by
      rw [decide_eq_true_eq]; exact (getD_eq_iff hl).symm) (fun i hi => by
      simp only [spec_SameObservers_l1, Int.ofNat_lt, hi, decide_true, if_true, ixOk_nat, ck_true, Int.toNat_natCast, wrap_nat1 (show i < 9223372036854775807 by omega), show i < b.length by omega, eqO]
      cases (a.getD i default == b.getD i default) <;> rfl) (by simp [spec_SameObservers_l1])]
    by_cases hab : a = b
    · simp [hab]
    · simp [hab]
  · have e : (!((a.length : Int) == (b.length : Int))) = true := by
      simp; omega
    rw [e]
    have : a ≠ b := fun c => hl (by rw [c])
    simp [this]

theorem SameO_impl (a b : List Observer) : impl_SameObservers a b = (spec_SameObservers a b).bind fun y => some y := by
  unfold impl_SameObservers slices_Equal_impl_Observer_impl_Observer spec_SameObservers
  have e : slices_Equal_impl_Observer_impl_Observer_l1 a b (a.length : Int) = spec_SameObservers_l1 a b := id rfl
  rw [e]

/-! ### The observer with a name -/

def namedO (l : List Observer) (n : List UInt8) : Int × Int := if validO l = true then (match findO l n with | some j => ((j : Int), 0) | none => (0, 3)) else (0, 1)

theorem Named_impl {l : List Observer} (hl : l.length ≤ 1000000) (n : List UInt8) : impl_ObserverNamed l n = some (namedO l n) := by
  unfold impl_ObserverNamed namedO
  rw [ValidObservers_is (by omega), Option.bind_some, findObserver_is (by omega)]
  cases validO l
  · rfl
  · simp only [Bool.not_true, Bool.false_eq_true, if_false, if_true, Option.bind_some]
    rfl

theorem Named_spec {l : List Observer} (hl : l.length ≤ 1000000) (n : List UInt8) : spec_ObserverNamed l n = some (namedO l n) := by
  unfold spec_ObserverNamed namedO
  rw [l05Ok_is (by omega), Option.bind_some, l05Find_is (by omega)]
  cases validO l
  · rfl
  · simp only [Bool.not_true, Bool.false_eq_true, if_false, if_true, Option.bind_some]
    cases findO l n with
    | none => rfl
    | some j =>
      rw [if_neg (by simp)]

/-! ### Corrected magnitudes -/

def magB (n : Int) : Bool := decide (-2000 ≤ n) && decide (n ≤ 20000)

theorem ValidMag_is (n : Int) : impl_ValidMag n = some (magB n) := by unfold impl_ValidMag; rw [impl_in_is]; rfl
theorem l02Mag_is (n : Int) : spec_l02Mag n = some (magB n) := by unfold spec_l02Mag; rw [spec_l00In_is]; rfl

def correctO (l : List Observer) (n : List UInt8) (k : Int) : Int × Int :=
  if validO l = true then (if magB k = true then (match findO l n with
    | some j => if magB (IntKind.i64.wrap (k + (l.getD j default).Shift)) = true then (IntKind.i64.wrap (k + (l.getD j default).Shift), 0) else (0, 5)
    | none => (0, 3)) else (0, 2)) else (0, 1)

theorem Correct_impl {l : List Observer} (hl : l.length ≤ 1000000) (n : List UInt8) (k : Int) : impl_CorrectMag l n k = some (correctO l n k) := by
  unfold impl_CorrectMag correctO
  rw [ValidObservers_is (by omega), Option.bind_some, findObserver_is (by omega), ValidMag_is]
  cases validO l
  · rfl
  · simp only [Bool.not_true, Bool.false_eq_true, if_false, if_true, Option.bind_some]
    cases magB k
    · rfl
    · simp only [Bool.not_true, Bool.false_eq_true, if_false, if_true]
      cases hf : findO l n with
      | none => rfl
      | some j =>
        have hj := (findO_some hf).1
        simp only [beq_self_eq_true, Bool.not_true, Bool.false_eq_true, if_false, ixOk_nat, hj, decide_true, ck_true, Int.toNat_natCast, ValidMag_is, Option.bind_some]
        generalize magB (IntKind.i64.wrap (k + (l.getD j default).Shift)) = B
        cases B <;> rfl

theorem Correct_spec {l : List Observer} (hl : l.length ≤ 1000000) (n : List UInt8) (k : Int) : spec_CorrectMag l n k = some (correctO l n k) := by
  unfold spec_CorrectMag correctO
  rw [Named_spec hl, Option.bind_some, l02Mag_is]
  unfold namedO
  cases validO l
  · rfl
  · simp only [if_true]
    cases hf : findO l n with
    | none =>
      cases magB k <;> rfl
    | some j =>
      have hj := (findO_some hf).1
      cases magB k
      · rfl
      · simp only [show ((0 : Int) == 1) = false from rfl, beq_self_eq_true, Bool.not_true, Bool.false_eq_true, if_false, if_true, ixOk_nat, hj, decide_true, ck_true, Int.toNat_natCast, l02Mag_is, Option.bind_some]
        generalize magB (IntKind.i64.wrap (k + (l.getD j default).Shift)) = B
        cases B <;> rfl

/-! ### Other shifts -/

def shiftB (n : Int) : Bool := decide (-2000 ≤ n) && decide (n ≤ 2000)

theorem allIn_is {s : List Int} (hl : s.length ≤ 1000000) : impl_allIn s (-2000) 2000 = some (s.all shiftB) := by
  unfold impl_allIn slices_ContainsFunc_int64_int64__impl_allIn_c1 slices_IndexFunc_int64_int64__impl_allIn_c1
  rw [while_find (step := slices_IndexFunc_int64_int64__impl_allIn_c1_l1 s (-2000) 2000 (s.length : Int)) (fun i => !shiftB (s.getD i default)) (fun i => (i : Int)) s.length (fun i hi => by
    simp only [slices_IndexFunc_int64_int64__impl_allIn_c1_l1, impl_allIn_c1, Int.ofNat_lt, hi, decide_true, if_true, ixOk_nat, ck_true, Int.toNat_natCast, impl_in_is, Option.bind_some, wrap_nat1 (show i < 9223372036854775807 by omega)]
    show (if (!shiftB (s.getD i default)) = true then _ else _) = _
    cases shiftB (s.getD i default) <;> rfl) (by simp [slices_IndexFunc_int64_int64__impl_allIn_c1_l1])]
  have := find_any s (fun z => !shiftB z)
  cases hf : (List.range s.length).find? (fun i => !shiftB (s.getD i default)) with
  | none =>
    rw [hf] at this
    have e : s.all shiftB = true := by
      rw [List.all_eq_not_any_not, ← this]; rfl
    rw [e]; rfl
  | some j =>
    rw [hf] at this
    have e : s.all shiftB = false := by
      rw [List.all_eq_not_any_not, ← this]; rfl
    rw [e]
    simp

theorem l05Shifts_is {s : List Int} (hl : s.length ≤ 1000000) : spec_l05Shifts s 2000 = some (s.all shiftB) := by
  unfold spec_l05Shifts
  have w : IntKind.i64.wrap ((0 : Int) - 2000) = -2000 := wrap_i64 (by omega) (by omega)
  rw [while_all (step := spec_l05Shifts_l1 s 2000) (fun i => shiftB (s.getD i default)) s.length (s.all shiftB) (yes := .inl ()) (no := .inr false) (by
      rw [List.all_eq_true]
      constructor
      · intro h i hi; exact h _ (getD_mem hi default)
      · intro h x hx
        obtain ⟨i, hi, rfl⟩ := List.getElem_of_mem hx
        have := h i hi
        rw [getD_lt hi] at this
        exact this) (fun i hi => by
      simp only [spec_l05Shifts_l1, Int.ofNat_lt, hi, decide_true, if_true, ixOk_nat, ck_true, Int.toNat_natCast, w, spec_l00In_is, Option.bind_some, wrap_nat1 (show i < 9223372036854775807 by omega)]
      show (if (!shiftB (s.getD i default)) = true then _ else _) = _
      cases shiftB (s.getD i default) <;> rfl) (by simp [spec_l05Shifts_l1])]
  cases s.all shiftB <;> rfl

def newO (l : List Observer) (sh : List Int) (i : Nat) : Observer := ⟨(l.getD i default).Name, sh.getD i default⟩
def newOs (l : List Observer) (sh : List Int) (n : Nat) : List Observer := (List.range n).map (newO l sh)

theorem newOs_len (l : List Observer) (sh : List Int) (n : Nat) : (newOs l sh n).length = n := by simp [newOs]
theorem newOs_succ (l : List Observer) (sh : List Int) (n : Nat) : newOs l sh (n + 1) = newOs l sh n ++ [newO l sh n] := by simp [newOs, List.range_succ]

theorem Apply_impl {l : List Observer} (sh : List Int) (hl : l.length ≤ 1000000) (h : sh.length = l.length) : whileE (impl_ApplyShifts_l1 sh (sh.length : Int)) (l, 0) = some (newOs l sh l.length) := by
  have := while_up (step := impl_ApplyShifts_l1 sh (sh.length : Int)) (fun i => newOs l sh i ++ l.drop i) sh.length (r := newOs l sh l.length) (fun i hi => by
    have hi' : i < l.length := by omega
    have ed : l.drop i = l.getD i default :: l.drop (i + 1) := by rw [getD_lt hi']; exact List.drop_eq_getElem_cons hi'
    have hlen : (newOs l sh i ++ l.drop i).length = l.length := by simp [newOs_len]; omega
    have eg : (newOs l sh i ++ l.drop i).getD i default = l.getD i default := by
      rw [List.getD_eq_getElem?_getD, List.getElem?_append_right (by rw [newOs_len]; omega), newOs_len, Nat.sub_self, ed]; rfl
    have es : ∀ v, (newOs l sh i ++ l.drop i).set i v = newOs l sh i ++ [v] ++ l.drop (i + 1) := fun v => by
      rw [List.set_append_right _ _ (by rw [newOs_len]; omega), newOs_len, Nat.sub_self, ed, List.set_cons_zero, List.append_assoc]; rfl
    simp only [impl_ApplyShifts_l1, Int.ofNat_lt, hi, decide_true, if_true, ixOk_nat, ck_true, Int.toNat_natCast, wrap_nat1 (show i < 9223372036854775807 by omega), hlen, hi', eg, es]
    rw [newOs_succ]; rfl) (by
    simp only [impl_ApplyShifts_l1, Int.lt_irrefl, decide_false, Bool.false_eq_true, if_false]
    rw [h, List.drop_length, List.append_nil])
  have e0 : newOs l sh 0 ++ l.drop 0 = l := by simp [newOs]
  rw [e0] at this
  exact this

theorem Apply_spec {l : List Observer} (sh : List Int) (hl : l.length ≤ 1000000) (h : sh.length = l.length) : whileE (spec_ApplyShifts_l1 l sh) (([] : List Observer), 0) = some (newOs l sh l.length) :=
  while_up (step := spec_ApplyShifts_l1 l sh) (fun i => newOs l sh i) l.length (r := newOs l sh l.length) (fun i hi => by
    have hi' : i < sh.length := by omega
    simp only [spec_ApplyShifts_l1, Int.ofNat_lt, hi, decide_true, if_true, ixOk_nat, ck_true, Int.toNat_natCast, wrap_nat1 (show i < 9223372036854775807 by omega), hi']
    rw [appOk_of (by rw [newOs_len]; simp; omega), ck_true, newOs_succ]; rfl) (by
    simp only [spec_ApplyShifts_l1, Int.lt_irrefl, decide_false, Bool.false_eq_true, if_false])

theorem Apply_same {l : List Observer} {sh : List Int} (hl : l.length ≤ 1000000) (hs : sh.length ≤ 1000000) : ∃ y c, y.length ≤ 1000000 ∧ impl_ApplyShifts l sh = some (y, c) ∧ spec_ApplyShifts l sh = some (y, c) := by
  unfold impl_ApplyShifts spec_ApplyShifts
  rw [ValidObservers_is (by omega), l05Ok_is (by omega), Option.bind_some, Option.bind_some, allIn_is hs, l05Shifts_is hs]
  simp only [Option.isSome_some, Option.getD_some, Bool.or_true, ck_true]
  cases validO l
  · exact ⟨_, _, by simp, rfl, rfl⟩
  · simp only [Bool.not_true, Bool.false_eq_true, if_false]
    by_cases c : ((!((sh.length : Int) == (l.length : Int))) || (!(sh.all shiftB))) = true
    · rw [if_pos c, if_pos c]
      exact ⟨_, _, by simp, rfl, rfl⟩
    · rw [if_neg c, if_neg c]
      have h : sh.length = l.length := by
        simp only [Bool.or_eq_true, not_or] at c
        have := c.1
        simp at this
        omega
      rw [copyO_is hl, Option.bind_some, Apply_impl sh hl h, Apply_spec sh hl h]
      exact ⟨_, _, by rw [newOs_len]; exact hl, rfl, rfl⟩

/-! ### Texts -/

theorem textO_ne (x : Observer) : textO x ≠ [] := by unfold textO; simp

theorem readO_nil : readO [] = (⟨[], 0⟩, false) := readO_none (fun ⟨x, _, e⟩ => textO_ne x e.symm)

/-! ### The law -/

theorem law_ObserverLists {code : List UInt8} (w : code.length ≤ maxLen) : laws_FnObserverLists code = some true := by
  unfold laws_FnObserverLists laws_f6big
  rw [Option.bind_some]
  by_cases hb : (4096 : Int) < (code.length : Int)
  · simp [hb]
  have hc : code.length ≤ 1099511627776 := by omega
  rw [if_neg (by simpa using hb)]
  obtain ⟨l, x, e1, hl⟩ := DrawAdd_is hc
  obtain ⟨y, c1, hy, e2, e3, k1⟩ := Store_same (l := l) (by omega) x
  obtain ⟨a, n, e4, ha⟩ := DrawNamed_is hc
  have e5 := Named_impl (l := a) (by omega) n
  have e6 := Named_spec (l := a) (by omega) n
  obtain ⟨b, who, mg, e7, hb7⟩ := DrawCorrect_is hc
  have e8 := Correct_impl (l := b) (by omega) who mg
  have e9 := Correct_spec (l := b) (by omega) who mg
  obtain ⟨c, sh, e10, hc10, hsh⟩ := DrawApply_is hc
  obtain ⟨z, c5, hz, e11, e12⟩ := Apply_same (l := c) (sh := sh) (by omega) (by omega)
  obtain ⟨t, e13⟩ := DrawText_is hc
  have e14 := ObserverText_impl t
  have e15 := ObserverText_spec t
  obtain ⟨s, e16, hs⟩ := DrawRead_is hc
  have e17 := ReadObserver_impl hs
  have e18 := ReadObserver_spec hs
  obtain ⟨a1, a2, e19, h1, h2⟩ := DrawSameO_is hc
  have e20 := SameO_is (a := a1) (b := a2) (by omega)
  have e21 : impl_SameObservers a1 a2 = some (decide (a1 = a2)) := by rw [SameO_impl, e20]; rfl
  have e22 : spec_SameObservers y y = some true := by rw [SameO_is (by omega)]; simp
  have e23 : spec_SameObservers z z = some true := by rw [SameO_is (by omega)]; simp
  have e24 := ValidObservers_is (l := l) (by omega)
  have e25 : spec_ValidObservers l = some (validO l) := by unfold spec_ValidObservers; rw [l05Ok_is (by omega)]; rfl
  obtain ⟨tx, rd, e26, e27, e28, q1⟩ : ∃ tx rd, impl_ObserverText t = some tx ∧ spec_ObserverText t = some tx ∧ impl_ReadObserver tx = some rd ∧ (rd.2 = (!(tx == ([] : List UInt8))) ∧ (rd.2 = true → rd.1 = t)) := by
    by_cases hv : oneO t = true
    · rw [if_pos hv] at e14 e15
      have hl := textO_len (oneO_r64 hv) (by have := oneO_len hv; omega)
      refine ⟨_, _, e14, e15, ReadObserver_impl (by omega), ?_⟩
      rw [readO_text hv]
      refine ⟨?_, fun _ => rfl⟩
      have := textO_ne t
      simp [this]
    · rw [if_neg hv] at e14 e15
      refine ⟨_, _, e14, e15, ReadObserver_impl (by simp), ?_⟩
      rw [readO_nil]
      exact ⟨rfl, fun h => by cases h⟩
  have q2 : (rd.2 && (!((rd.1.Name == t.Name) && (rd.1.Shift == t.Shift)))) = false := by
    cases hr : rd.2
    · rfl
    · rw [q1.2 hr]; simp
  simp only [e1, e2, e3, e4, e5, e6, e7, e8, e9, e10, e11, e12, e13, e26, e27, e28, e16, e17, e18, e19, e20, e21, e22, e23, e24, e25, q1.1.symm, q2, Option.bind_some, Option.isSome_some, Option.getD_some, Bool.or_true, ck_true, beq_self_eq_true, Bool.not_true, Bool.and_self, Bool.or_self, Bool.false_or, Bool.or_false, Bool.false_eq_true, if_false]
  by_cases h : c1 = 0
  · obtain ⟨v1, v2, k, hk, hx⟩ := k1 h
    obtain ⟨vg, v40⟩ := validO_good v1
    have hsx := oneO_in v2
    have hf : findO y x.Name = some k := findO_of hk (by rw [hx]) (fun i hi e => by
      have := up_lt' vg hi hk
      rw [e, hx] at this
      exact ltO_irr _ this)
    have w1 : IntKind.i64.wrap (9000 + x.Shift) = 9000 + x.Shift := wrap_i64 (by omega) (by omega)
    have r1 : namedO y x.Name = ((k : Int), 0) := by unfold namedO; rw [if_pos v1, hf]
    have m1 : magB 9000 = true := by decide
    have m2 : magB (9000 + x.Shift) = true := by unfold magB; simp; omega
    have r2 : correctO y x.Name 9000 = (9000 + x.Shift, 0) := by
      unfold correctO
      rw [if_pos v1, if_pos m1, hf]
      simp only [hx, w1]
      rw [if_pos m2]
    have p1 : decide ((0 : Int) ≤ (k : Int)) = true := by simp
    have p2 : decide ((k : Int) < (y.length : Int)) = true := by simp; omega
    rw [if_neg (by simp [h]), Named_impl (by omega), Correct_impl (by omega), r1, r2, ValidObservers_is (by omega), v1]
    simp only [Option.bind_some, p1, p2, ixOk_nat, hk, decide_true, Int.toNat_natCast, hx, w1, Option.isSome_some, Option.getD_some, Bool.or_true, ck_true, beq_self_eq_true, Bool.and_self]
  · rw [if_pos (by simpa using h)]

end Go.Proofs.YtegelahoakkaaaaGreatDoor
