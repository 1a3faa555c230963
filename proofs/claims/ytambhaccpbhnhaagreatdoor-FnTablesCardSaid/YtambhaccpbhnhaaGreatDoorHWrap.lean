/- What typed forms say: the words of a text, its wrapped lines. No condition. -/
import Derived.Test.YtambhaccpbhnhaaGreatDoorHTab
import Derived.Test.YtambhaccpbhnhaaGreatDoorHText
namespace Go.Proofs.YtambhaccpbhnhaaGreatDoor
open Go Go.RowKit
set_option linter.unusedSimpArgs false
set_option linter.unusedVariables false

theorem cut_same {s : List UInt8} {i : Nat} : cut s (i : Int) (i : Int) = [] := by
  simp [cut]

theorem cut_snoc {s : List UInt8} {a i : Nat} (h : a ≤ i) (hi : i < s.length) : cut s (a : Int) ((i + 1 : Nat) : Int) = cut s (a : Int) (i : Int) ++ [s[i]] := by
  simp only [cut, Int.toNat_natCast]
  rw [List.take_add_one, List.getElem?_eq_getElem hi, List.drop_append_of_le_length (by simp; omega)]
  rfl

theorem l01Split_is {s : List UInt8} (c : UInt8) (hl : s.length ≤ 1048576) : spec_l01Split s c = some (splitOn c s) := by
  unfold spec_l01Split
  obtain ⟨y, hy, hq⟩ := while_post (step := spec_l01Split_l1 s c) (fun st => ∃ a i : Nat, st.2.1 = (a : Int) ∧ st.2.2 = (i : Int) ∧ a ≤ i ∧ i ≤ s.length ∧ st.1.length ≤ i ∧ st.1 ++ splitAcc c (cut s (a : Int) (i : Int)) (s.drop i) = splitOn c s)
    (fun y => ∃ a : Nat, y.2 = (a : Int) ∧ a ≤ s.length ∧ y.1.length ≤ s.length ∧ y.1 ++ [cut s (a : Int) (s.length : Int)] = splitOn c s) (fun st => s.length - st.2.2.toNat) (by
    rintro ⟨out, fr, ii⟩ ⟨a, i, h1, h2, hai, hi, ho, he⟩
    simp only at h1 h2 ho he
    subst h1 h2
    by_cases hlt : i < s.length
    · left
      have hd : s.drop i = s[i] :: s.drop (i + 1) := List.drop_eq_getElem_cons hlt
      have hg : s.getD i 0 = s[i] := getD_lt hlt 0
      rw [hd, splitAcc] at he
      have hc2 : ((s[i].toNat : Int) == (c.toNat : Int)) = decide (s[i] = c) := by
        rw [Bool.eq_iff_iff]; simp only [beq_iff_eq, decide_eq_true_eq, ← UInt8.toNat_inj]; omega
      by_cases hc : s[i] = c
      · rw [if_pos hc] at he
        refine ⟨(out ++ [cut s (a : Int) (i : Int)], ((i + 1 : Nat) : Int), ((i + 1 : Nat) : Int)), ?_, ⟨i + 1, i + 1, rfl, rfl, Nat.le_refl _, by omega, by simp; omega, ?_⟩, by simp; omega⟩
        · simp only [spec_l01Split_l1, Int.ofNat_lt, hlt, decide_true, if_true, ixOk_nat, ck_true, Int.toNat_natCast, hg, hc, beq_self_eq_true, wrap_nat1 (show i < 9223372036854775807 by omega)]
          rw [cutOk_of (by omega) (by omega) (by omega), ck_true, appOk_of (by simp; omega), ck_true]
        · simp only
          rw [cut_same, List.append_assoc]
          exact he
      · rw [if_neg hc] at he
        refine ⟨(out, (a : Int), ((i + 1 : Nat) : Int)), ?_, ⟨a, i + 1, rfl, rfl, by omega, by omega, by show out.length ≤ i + 1; omega, ?_⟩, by simp; omega⟩
        · simp only [spec_l01Split_l1, Int.ofNat_lt, hlt, decide_true, if_true, ixOk_nat, ck_true, Int.toNat_natCast, hg, hc2, hc, decide_false, Bool.false_eq_true, if_false, wrap_nat1 (show i < 9223372036854775807 by omega)]
        · simp only
          rw [cut_snoc hai hlt]
          exact he
    · right
      have hie : i = s.length := by omega
      subst hie
      refine ⟨(out, (a : Int)), by simp [spec_l01Split_l1], a, rfl, hai, ho, ?_⟩
      rw [List.drop_length, splitAcc] at he
      exact he) (s := (([] : List (List UInt8)), 0, 0)) ⟨0, 0, rfl, rfl, Nat.le_refl _, Nat.zero_le _, by simp, by simp [cut, splitOn]⟩
  obtain ⟨a, h1, h2, h3, h4⟩ := hq
  obtain ⟨o, y2⟩ := y
  simp only at h1 h3 h4
  subst h1
  rw [hy]
  simp only [Option.bind_some]
  rw [cutOk_of (by omega) (by omega) (by omega), ck_true, appOk_of (by simp; omega), ck_true, h4]

/-! ### Words -/

def wordB (w : List UInt8) : Bool := !(w == ([] : List UInt8))
def wordsOf (s : List UInt8) : List (List UInt8) := (splitOn 32 s).filter wordB

theorem kept_filter {β : Type} (l : List β) (p : β → Bool) (d : β) : keptTo (α := β) (fun i => p (l.getD i d)) (fun i => l.getD i d) l.length = l.filter p := by
  have e : (List.range l.length).map (fun i => l.getD i d) = l := by
    apply List.ext_getElem
    · simp
    · intro i h1 h2
      rw [List.getElem_map, List.getElem_range, getD_lt h2]
  unfold keptTo
  conv => rhs; rw [← e]
  rw [List.filter_map]
  rfl

theorem SplitWords_impl {s : List UInt8} (hl : s.length ≤ 1000000) : impl_SplitWords s = some (wordsOf s) := by
  unfold impl_SplitWords
  rw [hSplit_one (by omega), Option.bind_some]
  have hn : (splitOn 32 s).length ≤ 1000001 := by have := (splitAcc_len 32 s []).2; unfold splitOn; omega
  have e := while_keep (step := impl_SplitWords_l1 (splitOn 32 s) ((splitOn 32 s).length : Int)) (fun i => wordB ((splitOn 32 s).getD i default)) (fun i => (splitOn 32 s).getD i default) (splitOn 32 s).length (r := wordsOf s) (fun out i hi ho => by
    simp only [impl_SplitWords_l1, Int.ofNat_lt, hi, decide_true, if_true, ixOk_nat, ck_true, Int.toNat_natCast, wrap_nat1 (show i < 9223372036854775807 by omega)]
    rw [appOk_of (by simp; omega), ck_true]
    unfold wordB
    split <;> rfl) (by
    rw [kept_filter]
    simp [impl_SplitWords_l1, wordsOf])
  rw [e]; rfl

theorem SplitWords_spec {s : List UInt8} (hl : s.length ≤ 1000000) : spec_SplitWords s = some (wordsOf s) := by
  unfold spec_SplitWords
  rw [l01Split_is 32 (by omega), Option.bind_some]
  have hn : (splitOn 32 s).length ≤ 1000001 := by have := (splitAcc_len 32 s []).2; unfold splitOn; omega
  have e := while_keep (step := spec_SplitWords_l1 (splitOn 32 s)) (fun i => wordB ((splitOn 32 s).getD i default)) (fun i => (splitOn 32 s).getD i default) (splitOn 32 s).length (r := wordsOf s) (fun out i hi ho => by
    simp only [spec_SplitWords_l1, Int.ofNat_lt, hi, decide_true, if_true, ixOk_nat, ck_true, Int.toNat_natCast, wrap_nat1 (show i < 9223372036854775807 by omega)]
    rw [appOk_of (by simp; omega), ck_true]
    unfold wordB
    split <;> rfl) (by
    rw [kept_filter]
    simp [spec_SplitWords_l1, wordsOf])
  rw [e]; rfl

theorem words_len (s : List UInt8) : (wordsOf s).length ≤ s.length + 1 := Nat.le_trans (List.length_filter_le _ _) (splitAcc_len 32 s []).2

theorem words_in {s w : List UInt8} (h : w ∈ wordsOf s) : w ≠ [] ∧ (32 : UInt8) ∉ w := by
  obtain ⟨h1, h2⟩ := List.mem_filter.1 h
  refine ⟨fun e => ?_, part_free 32 (by simp) w h1⟩
  subst e
  simp [wordB] at h2

/-- Lines or words, a blank behind each. -/
def glue : List (List UInt8) → List UInt8
  | [] => []
  | a :: r => a ++ 32 :: glue r

theorem glue_app : ∀ a b : List (List UInt8), glue (a ++ b) = glue a ++ glue b
  | [], b => rfl
  | x :: r, b => by
    show x ++ 32 :: glue (r ++ b) = (x ++ 32 :: glue r) ++ glue b
    rw [glue_app r b, List.append_assoc]; rfl

theorem glue_one (a : List UInt8) : glue [a] = a ++ [32] := rfl

theorem glue_len {b : Nat} : ∀ {l : List (List UInt8)}, (∀ x ∈ l, x.length ≤ b) → (glue l).length ≤ (b + 1) * l.length
  | [], _ => by simp [glue]
  | x :: r, h => by
    have h1 := glue_len (b := b) (l := r) (fun y hy => h y (List.mem_cons_of_mem _ hy))
    have h2 := h x List.mem_cons_self
    show (x ++ 32 :: glue r).length ≤ _
    rw [List.length_append, List.length_cons, List.length_cons, Nat.mul_succ]
    omega

theorem split_glue : ∀ {l : List (List UInt8)}, (∀ x ∈ l, (32 : UInt8) ∉ x) → splitOn 32 (glue l) = l ++ [[]]
  | [], _ => rfl
  | x :: r, h => by
    have h1 := split_glue (l := r) (fun y hy => h y (List.mem_cons_of_mem _ hy))
    show splitAcc 32 [] (x ++ 32 :: glue r) = _
    rw [splitAcc_app (h x List.mem_cons_self)]
    unfold splitOn at h1
    rw [h1]; rfl

theorem words_glue {l : List (List UInt8)} (h : ∀ x ∈ l, x ≠ [] ∧ (32 : UInt8) ∉ x) : wordsOf (glue l) = l := by
  unfold wordsOf
  rw [split_glue fun x hx => (h x hx).2, List.filter_append]
  have e : l.filter wordB = l := by
    rw [List.filter_eq_self]
    intro x hx
    unfold wordB
    simpa using (h x hx).1
  rw [e]
  have : [([] : List UInt8)].filter wordB = [] := rfl
  rw [this, List.append_nil]

/-! ### The lines of a wrapped text -/

def outT {σ ρ : Type} (no : ρ) (i : Nat) : Option σ → (σ × Int) ⊕ (σ ⊕ ρ)
  | some s => .inl (s, ((i + 1 : Nat) : Int))
  | none => .inr (.inr no)
def endT {σ ρ : Type} (no : ρ) : Option σ → σ ⊕ ρ
  | some s => .inl s
  | none => .inr no

/-- Steps that may stop the whole. -/
def runT {σ : Type} (f : Nat → σ → Option σ) : Nat → Nat → σ → Option σ
  | 0, _, s => some s
  | m + 1, i, s => (f i s).bind (runT f m (i + 1))

theorem while_run {σ ρ : Type} {step : σ × Int → Option ((σ × Int) ⊕ (σ ⊕ ρ))} (f : Nat → σ → Option σ) (no : ρ) (n : Nat) (Inv : Nat → σ → Prop)
    (hs : ∀ i s, i < n → Inv i s → step (s, (i : Int)) = some (outT no i (f i s)))
    (hv : ∀ i s s', i < n → Inv i s → f i s = some s' → Inv (i + 1) s')
    (he : ∀ s, step (s, (n : Int)) = some (.inr (.inl s))) :
    ∀ m i s, i + m = n → Inv i s → whileE step (s, (i : Int)) = some (endT no (runT f m i s)) ∧ ∀ s', runT f m i s = some s' → Inv n s'
  | 0, i, s, hi, hI => by
    obtain rfl : i = n := by omega
    refine ⟨whileE_done (he s), fun s' h => ?_⟩
    simp only [runT, Option.some.injEq] at h
    subst h; exact hI
  | m + 1, i, s, hi, hI => by
    have hlt : i < n := by omega
    have h := hs i s hlt hI
    cases hf : f i s with
    | none =>
      rw [hf] at h
      have e : runT f (m + 1) i s = none := by show (f i s).bind _ = none; rw [hf]; rfl
      rw [e]
      exact ⟨whileE_done h, fun s' h => by cases h⟩
    | some s1 =>
      rw [hf] at h
      have e : runT f (m + 1) i s = runT f m (i + 1) s1 := by show (f i s).bind _ = _; rw [hf]; rfl
      rw [e, whileE_next h]
      exact while_run f no n Inv hs hv he m (i + 1) s1 (by omega) (hv i s s1 hlt hI hf)

def wrapF (width : Int) (words : List (List UInt8)) (i : Nat) (out : List (List UInt8)) : Option (List (List UInt8)) :=
  if width < ((words.getD i default).length : Int) then none
  else if 0 < out.length ∧ ((out.getD (out.length - 1) default).length : Int) + 1 + ((words.getD i default).length : Int) ≤ width then
    some (out.set (out.length - 1) (out.getD (out.length - 1) default ++ ([32] ++ words.getD i default)))
  else some (out ++ [words.getD i default])

def WrapI (width : Int) (words : List (List UInt8)) (i : Nat) (out : List (List UInt8)) : Prop :=
  out.length ≤ i ∧ (∀ x ∈ out, (x.length : Int) ≤ width) ∧ glue out = glue (words.take i)

theorem wrapI_next {width : Int} {words : List (List UInt8)} {i : Nat} {out out' : List (List UInt8)} (hi : i < words.length) (h : WrapI width words i out) (hf : wrapF width words i out = some out') : WrapI width words (i + 1) out' := by
  obtain ⟨h1, h2, h3⟩ := h
  have ht : words.take (i + 1) = words.take i ++ [words.getD i default] := by rw [List.take_add_one, List.getElem?_eq_getElem hi, getD_lt hi]; rfl
  unfold wrapF at hf
  generalize words.getD i default = w at hf ht
  split at hf
  · cases hf
  · rename_i hw
    split at hf
    · rename_i hc
      rcases List.eq_nil_or_concat out with e | ⟨a, x, e⟩
      · subst e; exact absurd hc.1 (by simp)
      · rw [List.concat_eq_append] at e
        subst e
        have e1 : (a ++ [x]).length - 1 = a.length := by simp
        have e2 : (a ++ [x]).getD a.length default = x := by simp [List.getD_eq_getElem?_getD]
        have e3 : ∀ y, (a ++ [x]).set a.length y = a ++ [y] := fun y => by simp
        rw [e1, e2] at hc
        rw [e1, e2, e3, Option.some.injEq] at hf
        subst hf
        refine ⟨by simp only [List.length_append, List.length_cons, List.length_nil] at h1 ⊢; omega, fun y hy => ?_, ?_⟩
        · rcases List.mem_append.1 hy with q | q
          · exact h2 y (List.mem_append_left _ q)
          · obtain rfl := List.mem_singleton.1 q
            have := hc.2
            simp only [List.length_append, List.length_cons, List.length_nil]; omega
        · rw [ht, glue_app, glue_app, ← h3, glue_app, glue_one, glue_one, glue_one]
          simp
    · rw [Option.some.injEq] at hf
      subst hf
      refine ⟨by simp; omega, fun y hy => ?_, ?_⟩
      · rcases List.mem_append.1 hy with q | q
        · exact h2 y q
        · obtain rfl := List.mem_singleton.1 q
          omega
      · rw [ht, glue_app, glue_app, h3]

section
variable {width : Int} {words : List (List UInt8)}

theorem wrap_step_impl (hw : 1 ≤ width ∧ width ≤ 80) (hn : words.length ≤ 1000000) (i : Nat) (out : List (List UInt8)) (hi : i < words.length) (h : WrapI width words i out) :
    impl_WrapText_l1 width words (words.length : Int) (out, (i : Int)) = some (outT (([] : List (List UInt8)), (5 : Int)) i (wrapF width words i out)) := by
  obtain ⟨h1, h2, _⟩ := h
  simp only [impl_WrapText_l1, Int.ofNat_lt, hi, decide_true, if_true, ixOk_nat, ck_true, Int.toNat_natCast, wrap_nat1 (show i < 9223372036854775807 by omega)]
  unfold wrapF
  obtain ⟨w, ew⟩ : ∃ w, words.getD i default = w := ⟨_, rfl⟩
  simp only [ew]
  by_cases c1 : width < (w.length : Int)
  · simp only [c1, decide_true, if_true]; rfl
  · simp only [c1, decide_false, Bool.false_eq_true, if_false]
    have e1 : IntKind.i64.wrap ((out.length : Int) - 1) = (out.length : Int) - 1 := wrap_i64 (by omega) (by omega)
    have e2 : ((out.length : Int) - 1).toNat = out.length - 1 := by omega
    simp only [e1, e2]
    by_cases c2 : 0 < out.length
    · have hix : ixOk ((out.length : Int) - 1) out.length = true := ixOk_of (by omega) (by omega)
      have hlast := h2 _ (getD_mem (show out.length - 1 < out.length by omega) default)
      have e3 : decide ((0 : Int) ≤ (out.length : Int) - 1) = true := decide_eq_true (by omega)
      obtain ⟨x, ex⟩ : ∃ x, out.getD (out.length - 1) default = x := ⟨_, rfl⟩
      rw [ex] at hlast
      simp only [ex]
      have e4 : IntKind.i64.wrap ((x.length : Int) + 1) = (x.length : Int) + 1 := wrap_i64 (by omega) (by omega)
      have e5 : IntKind.i64.wrap ((x.length : Int) + 1 + (w.length : Int)) = (x.length : Int) + 1 + (w.length : Int) := wrap_i64 (by omega) (by omega)
      simp only [hix, e3, e4, e5, Bool.or_true, ck_true, Bool.true_and, c2, true_and]
      by_cases c3 : (x.length : Int) + 1 + (w.length : Int) ≤ width
      · simp only [c3, decide_true, if_true]
        rw [catOk_of (by simp; omega), ck_true, catOk_of (by simp; omega), ck_true]; rfl
      · simp only [c3, decide_false, Bool.false_eq_true, if_false]
        rw [appOk_of (by simp; omega), ck_true]; rfl
    · have e3 : decide ((0 : Int) ≤ (out.length : Int) - 1) = false := decide_eq_false (by omega)
      simp only [e3, Bool.not_false, Bool.true_or, ck_true, Bool.false_and, Bool.false_eq_true, if_false, c2, false_and]
      rw [appOk_of (by simp; omega), ck_true]; rfl

theorem wrap_step_spec (hw : 1 ≤ width ∧ width ≤ 80) (hn : words.length ≤ 1000000) (i : Nat) (out : List (List UInt8)) (hi : i < words.length) (h : WrapI width words i out) :
    spec_WrapText_l1 width words (out, (i : Int)) = some (outT (([] : List (List UInt8)), (5 : Int)) i (wrapF width words i out)) := by
  obtain ⟨h1, h2, _⟩ := h
  simp only [spec_WrapText_l1, Int.ofNat_lt, hi, decide_true, if_true, ixOk_nat, ck_true, Int.toNat_natCast, wrap_nat1 (show i < 9223372036854775807 by omega)]
  unfold wrapF
  obtain ⟨w, ew⟩ : ∃ w, words.getD i default = w := ⟨_, rfl⟩
  simp only [ew]
  by_cases c1 : width < (w.length : Int)
  · simp only [c1, decide_true, if_true]; rfl
  · simp only [c1, decide_false, Bool.false_eq_true, if_false]
    have e1 : IntKind.i64.wrap ((out.length : Int) - 1) = (out.length : Int) - 1 := wrap_i64 (by omega) (by omega)
    have e2 : ((out.length : Int) - 1).toNat = out.length - 1 := by omega
    simp only [e1, e2]
    by_cases c2 : 0 < out.length
    · have hix : ixOk ((out.length : Int) - 1) out.length = true := ixOk_of (by omega) (by omega)
      have hlast := h2 _ (getD_mem (show out.length - 1 < out.length by omega) default)
      have e3 : decide ((0 : Int) < (out.length : Int)) = true := decide_eq_true (by omega)
      obtain ⟨x, ex⟩ : ∃ x, out.getD (out.length - 1) default = x := ⟨_, rfl⟩
      rw [ex] at hlast
      simp only [ex]
      have e4 : IntKind.i64.wrap ((x.length : Int) + 1) = (x.length : Int) + 1 := wrap_i64 (by omega) (by omega)
      have e5 : IntKind.i64.wrap ((x.length : Int) + 1 + (w.length : Int)) = (x.length : Int) + 1 + (w.length : Int) := wrap_i64 (by omega) (by omega)
      simp only [hix, e3, e4, e5, Bool.or_true, ck_true, Bool.true_and, c2, true_and]
      by_cases c3 : (x.length : Int) + 1 + (w.length : Int) ≤ width
      · simp only [c3, decide_true, if_true]
        rw [catOk_of (by simp; omega), ck_true, catOk_of (by simp; omega), ck_true]; rfl
      · simp only [c3, decide_false, Bool.false_eq_true, if_false]
        rw [appOk_of (by simp; omega), ck_true]; rfl
    · have e3 : decide ((0 : Int) < (out.length : Int)) = false := decide_eq_false (by omega)
      simp only [e3, Bool.not_false, Bool.true_or, ck_true, Bool.false_and, Bool.false_eq_true, if_false, c2, false_and]
      rw [appOk_of (by simp; omega), ck_true]; rfl
end

theorem WrapText_same {s : List UInt8} (hl : s.length ≤ 1000000) (width : Int) : ∃ o c, impl_WrapText s width = some (o, c) ∧ spec_WrapText s width = some (o, c) ∧ o.length ≤ 1000001 ∧
    (c = 0 → (1 ≤ width ∧ width ≤ 80) ∧ s.length ≤ 2000 ∧ o.length ≤ 2001 ∧ (∀ x ∈ o, (x.length : Int) ≤ width) ∧ glue o = glue (wordsOf s)) := by
  unfold impl_WrapText spec_WrapText impl_in spec_l00In
  rw [isPlain_is (by omega), l24Plain_is (by omega)]
  simp only [Option.bind_some]
  cases plainB s
  · exact ⟨[], 7, rfl, rfl, by simp, fun h => absurd h (by decide)⟩
  · simp only [Bool.not_true, Bool.false_eq_true, if_false]
    cases hc : ((!(decide (1 ≤ width) && decide (width ≤ 80))) || decide (2000 < (s.length : Int)))
    · simp only [Bool.false_eq_true, if_false]
      simp only [Bool.or_eq_false_iff, Bool.not_eq_false', Bool.and_eq_true, decide_eq_true_eq, decide_eq_false_iff_not] at hc
      obtain ⟨hw, hs⟩ := hc
      have hn := words_len s
      rw [SplitWords_impl hl, SplitWords_spec hl]
      simp only [Option.bind_some]
      have i0 : WrapI width (wordsOf s) 0 [] := ⟨Nat.le_refl _, fun x hx => by simp at hx, rfl⟩
      have a1 := while_run (step := impl_WrapText_l1 width (wordsOf s) ((wordsOf s).length : Int)) (wrapF width (wordsOf s)) (([] : List (List UInt8)), (5 : Int)) (wordsOf s).length (WrapI width (wordsOf s)) (fun i out hi h => wrap_step_impl hw (by omega) i out hi h) (fun i out out' hi h hf => wrapI_next hi h hf) (fun out => by simp [impl_WrapText_l1]) (wordsOf s).length 0 [] (by omega) i0
      have a2 := while_run (step := spec_WrapText_l1 width (wordsOf s)) (wrapF width (wordsOf s)) (([] : List (List UInt8)), (5 : Int)) (wordsOf s).length (WrapI width (wordsOf s)) (fun i out hi h => wrap_step_spec hw (by omega) i out hi h) (fun i out out' hi h hf => wrapI_next hi h hf) (fun out => by simp [spec_WrapText_l1]) (wordsOf s).length 0 [] (by omega) i0
      have b1 : whileE (impl_WrapText_l1 width (wordsOf s) ((wordsOf s).length : Int)) (([] : List (List UInt8)), 0) = _ := a1.1
      have b2 : whileE (spec_WrapText_l1 width (wordsOf s)) (([] : List (List UInt8)), 0) = _ := a2.1
      rw [b1, b2]
      have hI := a1.2
      cases hr : runT (wrapF width (wordsOf s)) (wordsOf s).length 0 [] with
      | none => exact ⟨[], 5, rfl, rfl, by simp, fun h => absurd h (by decide)⟩
      | some o =>
        obtain ⟨q1, q2, q3⟩ := hI o hr
        rw [List.take_length] at q3
        exact ⟨o, 0, rfl, rfl, by omega, fun _ => ⟨hw, by omega, by omega, q2, q3⟩⟩
    · exact ⟨[], 2, rfl, rfl, by simp, fun h => absurd h (by decide)⟩

end Go.Proofs.YtambhaccpbhnhaaGreatDoor
