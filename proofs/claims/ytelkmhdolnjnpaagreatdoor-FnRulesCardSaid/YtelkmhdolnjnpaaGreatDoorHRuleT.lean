/- What typed forms say: the texts of rules. No condition. -/
import Derived.Test.YtelkmhdolnjnpaaGreatDoorHRule
import Derived.Test.YtelkmhdolnjnpaaGreatDoorHPB
import Derived.Test.YtelkmhdolnjnpaaGreatDoorEngSI
namespace Go.Proofs.YtelkmhdolnjnpaaGreatDoor
open Go Go.RowKit
set_option linter.unusedSimpArgs false
set_option linter.unusedVariables false

def ampW : List UInt8 := [97, 109, 112]
def perW : List UInt8 := [112, 101, 114, 105, 111, 100]
def shapesW : List (List UInt8) := [[97, 110, 121], [115, 105, 110, 101], [115, 97, 119], [100, 105, 112, 115]]
def shapeW (k : Int) : List UInt8 := shapesW.getD k.toNat default
def rangeT (a b : Int) : List UInt8 := Lib.itoa a ++ 46 :: 46 :: Lib.itoa b
def wordsRu (x : Rule) : List (List UInt8) := [x.Class ++ [58], ampW, rangeT x.FromAmp x.ToAmp, perW, rangeT x.FromPer x.ToPer, shapeW x.Shape]
def textRu (x : Rule) : List UInt8 := joinOn 32 (wordsRu x)

theorem itoa_in {n : Int} (h0 : 0 ≤ n) : ∃ u : Nat, n = u ∧ Lib.itoa n = Lib.decDigits u := by
  obtain ⟨u, rfl⟩ : ∃ u : Nat, n = u := ⟨n.toNat, by omega⟩
  exact ⟨u, rfl, itoa_nat u⟩

theorem free_itoa {n : Int} (h0 : 0 ≤ n) {c : UInt8} (hc : dig c = false) : c ∉ Lib.itoa n := by
  obtain ⟨u, _, e⟩ := itoa_in h0
  rw [e]; exact dec_free hc u

theorem name_free {s : List UInt8} (h : nameB s = true) : (32 : UInt8) ∉ s := by
  unfold nameB at h
  simp only [Bool.and_eq_true, List.all_eq_true, List.mem_range] at h
  intro hm
  obtain ⟨i, hi, he⟩ := List.getElem_of_mem hm
  have := h.2.2 i hi
  rw [getD_lt hi, he] at this
  cases i with
  | zero => exact absurd this (by decide)
  | succ i =>
    have e : (i + 1 == 0) = false := by simp
    rw [e] at this
    exact absurd this (by decide)

structure InRuS (r : Rule) : Prop extends InRu r where
  nm : nameB r.Class = true
  s0 : 0 ≤ r.Shape
  s1 : r.Shape ≤ 3

theorem oneRu_all {r : Rule} (h : oneRu r = true) : InRuS r := by
  have h0 := oneRu_in h
  unfold oneRu at h
  simp only [Bool.and_eq_true, decide_eq_true_eq] at h
  exact ⟨h0, h.1.1.1, h.2.1, h.2.2⟩

theorem name_len {s : List UInt8} (h : nameB s = true) : s.length ≤ 12 := by
  unfold nameB at h; simp only [Bool.and_eq_true, decide_eq_true_eq] at h; exact h.2.1

theorem shape_four {k : Int} (h0 : 0 ≤ k) (h1 : k ≤ 3) : k = 0 ∨ k = 1 ∨ k = 2 ∨ k = 3 := by omega

theorem shapeW_free {k : Int} (h0 : 0 ≤ k) (h1 : k ≤ 3) : (32 : UInt8) ∉ shapeW k ∧ (shapeW k).length ≤ 4 := by
  rcases shape_four h0 h1 with rfl | rfl | rfl | rfl <;> exact ⟨by decide, by decide⟩

theorem rangeT_free {a b : Int} (ha : 0 ≤ a) (hb : 0 ≤ b) : (32 : UInt8) ∉ rangeT a b := by
  unfold rangeT
  simp only [List.mem_append, List.mem_cons, not_or]
  exact ⟨free_itoa ha (by decide), by decide, by decide, free_itoa hb (by decide)⟩

theorem words_free {x : Rule} (h : oneRu x = true) : ∀ p ∈ wordsRu x, (32 : UInt8) ∉ p := by
  have a := oneRu_all h
  have := a.a0; have := a.a1; have := a.p0; have := a.p1
  intro p hp
  unfold wordsRu at hp
  simp only [List.mem_cons, List.not_mem_nil, or_false] at hp
  rcases hp with rfl | rfl | rfl | rfl | rfl | rfl
  · simp only [List.mem_append, List.mem_cons, List.not_mem_nil, or_false, not_or]
    exact ⟨name_free a.nm, by decide⟩
  · decide
  · exact rangeT_free a.a0 (by omega)
  · decide
  · exact rangeT_free a.p0 (by omega)
  · exact (shapeW_free a.s0 a.s1).1

theorem split_text {x : Rule} (h : oneRu x = true) : splitOn 32 (textRu x) = wordsRu x := split_join 32 (wordsRu x) (by simp [wordsRu]) (words_free h)

/-! ### The text is made -/

theorem r64 {n : Int} (h0 : 0 ≤ n) (h1 : n ≤ 10000000) : R64 n := ⟨by omega, by omega⟩

theorem text_flat (x : Rule) : Lib.join [x.Class ++ ([58] : List UInt8), ([97, 109, 112] : List UInt8), ((Lib.itoa x.FromAmp ++ ([46, 46] : List UInt8)) ++ Lib.itoa x.ToAmp), ([112, 101, 114, 105, 111, 100] : List UInt8), ((Lib.itoa x.FromPer ++ ([46, 46] : List UInt8)) ++ Lib.itoa x.ToPer), shapesW.getD x.Shape.toNat default] ([32] : List UInt8) = textRu x := by
  simp [Lib.join, List.intercalate, textRu, joinOn, wordsRu, rangeT, shapeW, ampW, perW]

theorem text_len {x : Rule} (h : oneRu x = true) : (textRu x).length ≤ 300 := by
  have a := oneRu_all h
  have := a.a0; have := a.a1; have := a.a2; have := a.p0; have := a.p1; have := a.p2
  have hn := name_len a.nm
  have l1 := itoa_len (r64 a.a0 (by omega))
  have l2 := itoa_len (r64 (n := x.ToAmp) (by omega) (by omega))
  have l3 := itoa_len (r64 a.p0 (by omega))
  have l4 := itoa_len (r64 (n := x.ToPer) (by omega) (by omega))
  have l5 := (shapeW_free a.s0 a.s1).2
  simp only [textRu, joinOn, wordsRu, rangeT, ampW, perW, List.length_append, List.length_cons, List.length_nil]
  omega

theorem RuleText_impl (x : Rule) : impl_RuleText x = some (if oneRu x = true then textRu x else []) := by
  unfold impl_RuleText
  rw [isRule_is, Option.bind_some]
  cases h : oneRu x
  · rfl
  · have a := oneRu_all h
    have := a.a0; have := a.a1; have := a.a2; have := a.p0; have := a.p1; have := a.p2; have := a.s0; have := a.s1
    have hn := name_len a.nm
    have l1 := itoa_len (r64 a.a0 (by omega))
    have l2 := itoa_len (r64 (n := x.ToAmp) (by omega) (by omega))
    have l3 := itoa_len (r64 a.p0 (by omega))
    have l4 := itoa_len (r64 (n := x.ToPer) (by omega) (by omega))
    have esh : impl_shapeNames = some shapesW := id rfl
    simp only [Bool.not_true, Bool.false_eq_true, if_false, if_true, Decimal_is (r64 a.a0 (by omega)), Decimal_is (r64 (n := x.ToAmp) (by omega) (by omega)), Decimal_is (r64 a.p0 (by omega)), Decimal_is (r64 (n := x.ToPer) (by omega) (by omega)), Option.bind_some, esh]
    rw [catOk_of (by simp; omega), ck_true, catOk_of (by simp; omega), ck_true, catOk_of (by simp; omega), ck_true, catOk_of (by simp; omega), ck_true, catOk_of (by simp; omega), ck_true, ixOk_of (by omega) (by show x.Shape < 4; omega), ck_true]
    unfold hJoin joinOk
    have := text_len h
    rw [text_flat, if_pos (by simp; omega)]; rfl

theorem l18Text_is {x : Rule} (h : oneRu x = true) : spec_l18Text x = some (textRu x) := by
  have a := oneRu_all h
  have := a.a0; have := a.a1; have := a.a2; have := a.p0; have := a.p1; have := a.p2; have := a.s0; have := a.s1
  have hn := name_len a.nm
  have l1 := itoa_len (r64 a.a0 (by omega))
  have l2 := itoa_len (r64 (n := x.ToAmp) (by omega) (by omega))
  have l3 := itoa_len (r64 a.p0 (by omega))
  have l4 := itoa_len (r64 (n := x.ToPer) (by omega) (by omega))
  have l5 := (shapeW_free a.s0 a.s1).2
  have l5' : (shapesW.getD x.Shape.toNat default).length ≤ 4 := l5
  have esh : spec_l18Shapes = some shapesW := id rfl
  unfold spec_l18Text
  simp only [l01Dec_is (r64 a.a0 (by omega)), l01Dec_is (r64 (n := x.ToAmp) (by omega) (by omega)), l01Dec_is (r64 a.p0 (by omega)), l01Dec_is (r64 (n := x.ToPer) (by omega) (by omega)), Option.bind_some, esh]
  rw [catOk_of (by simp; omega), ck_true, catOk_of (by simp; omega), ck_true, catOk_of (by simp; omega), ck_true, catOk_of (by simp; omega), ck_true, catOk_of (by simp; omega), ck_true, catOk_of (by simp; omega), ck_true, catOk_of (by simp; omega), ck_true, catOk_of (by simp; omega), ck_true, catOk_of (by simp; omega), ck_true, ixOk_of (by omega) (by show x.Shape < 4; omega), ck_true, catOk_of (by simp only [List.length_append, List.length_cons, List.length_nil]; omega), ck_true]
  congr 1
  simp [textRu, joinOn, wordsRu, rangeT, shapeW, ampW, perW]

theorem RuleText_spec (x : Rule) : spec_RuleText x = some (if oneRu x = true then textRu x else []) := by
  unfold spec_RuleText
  rw [l18One_is, Option.bind_some]
  cases h : oneRu x
  · rfl
  · rw [l18Text_is h]; rfl

/-! ### A text is read -/

def noRu : Rule := ⟨[], 0, 0, 0, 0, 0⟩

noncomputable def readRu (s : List UInt8) : Rule × Bool := open Classical in if h : ∃ x, oneRu x = true ∧ s = textRu x then (h.choose, true) else (⟨[], 0, 0, 0, 0, 0⟩, false)

theorem rd_of {n : Int} (h0 : 0 ≤ n) (h1 : n ≤ 10000000) : rdDec (Lib.itoa n) = (n, true) := rdDec_any (by omega) (by omega)

theorem part_len (c : UInt8) : ∀ (s acc p : List UInt8), p ∈ splitAcc c acc s → p.length ≤ acc.length + s.length
  | [], acc, p, h => by
    simp only [splitAcc, List.mem_singleton] at h
    subst h; simp
  | x :: r, acc, p, h => by
    rw [splitAcc] at h
    split at h
    · rcases List.mem_cons.1 h with rfl | h
      · simp
      · have := part_len c r [] p h
        simp only [List.length_nil, List.length_cons] at this ⊢; omega
    · have := part_len c r (acc ++ [x]) p h
      simp only [List.length_append, List.length_cons, List.length_nil] at this ⊢; omega

theorem splitOn_len {c : UInt8} {s p : List UInt8} (h : p ∈ splitOn c s) : p.length ≤ s.length := by
  have := part_len c s [] p h
  simpa using this

theorem splitOn_join (c : UInt8) (s : List UInt8) : joinOn c (splitOn c s) = s := by unfold splitOn; rw [join_splitAcc]; rfl

/-! ### A range -/

def rangeP (s : List UInt8) : Int × Int × Bool := match splitOn 46 s with
  | [a, [], b] => ((rdDec a).1, (rdDec b).1, (rdDec a).2 && (rdDec b).2)
  | _ => (0, 0, false)

theorem rangeP_ok {s : List UInt8} (h : (rangeP s).2.2 = true) : s = rangeT (rangeP s).1 (rangeP s).2.1 := by
  have hj := splitOn_join 46 s
  unfold rangeP at h ⊢
  generalize splitOn 46 s = v at h hj
  split at h
  · rename_i a b
    simp only [Bool.and_eq_true] at h
    simp only
    obtain ⟨e1, _⟩ := rdDec_itoa h.1
    obtain ⟨e2, _⟩ := rdDec_itoa h.2
    unfold rangeT
    rw [e1, e2, ← hj]; rfl
  · cases h

theorem split_range {a b : Int} (ha : 0 ≤ a) (hb : 0 ≤ b) : splitOn 46 (rangeT a b) = [Lib.itoa a, [], Lib.itoa b] := split_join 46 [Lib.itoa a, [], Lib.itoa b] (by simp) (by
  intro p hp; simp only [List.mem_cons, List.not_mem_nil, or_false] at hp
  rcases hp with rfl | rfl | rfl
  · exact free_itoa ha (by decide)
  · simp
  · exact free_itoa hb (by decide))

theorem rangeP_text {a b : Int} (ha : 0 ≤ a) (h1 : a ≤ 10000000) (hb : 0 ≤ b) (h2 : b ≤ 10000000) : rangeP (rangeT a b) = (a, b, true) := by
  unfold rangeP
  rw [split_range ha hb]
  simp only [rd_of ha h1, rd_of hb h2, Bool.and_self]

theorem l18Range_is {s : List UInt8} (hl : s.length ≤ 1048576) : spec_l18Range s = some (rangeP s) := by
  unfold spec_l18Range rangeP
  rw [l01Split_is 46 hl, Option.bind_some]
  have hpl : ∀ p ∈ splitOn 46 s, p.length ≤ 1048576 := fun p hp => Nat.le_trans (splitOn_len hp) hl
  generalize splitOn 46 s = v at hpl
  match v, hpl with
  | [], _ => rfl
  | [a], _ => rfl
  | [a, b], _ => cases b <;> rfl
  | a :: b :: c :: d :: r, _ =>
    have e : (!(((a :: b :: c :: d :: r : List (List UInt8)).length : Int) == 3)) = true := by
      simp only [List.length_cons, Bool.not_eq_true', beq_eq_false_iff_ne]; omega
    rw [e]; simp only [Bool.not_true, Bool.true_or, ck_true, if_true, Bool.not_false]
  | [a, x :: b, c], _ => rfl
  | [a, [], b], hpl =>
    have h0 := hpl a (by simp)
    have h2 := hpl b (by simp)
    show (spec_l01Number a).bind _ = _
    rw [l01Number_is h0, Option.bind_some]
    show (spec_l01Number b).bind _ = _
    rw [l01Number_is h2]; rfl

/-! ### The shape's word -/

def shapeOf (w : List UInt8) : Int := if w = [100, 105, 112, 115] then 3 else if w = [115, 97, 119] then 2 else if w = [115, 105, 110, 101] then 1 else if w = [97, 110, 121] then 0 else -1

theorem shapeOf_W {k : Int} (h0 : 0 ≤ k) (h1 : k ≤ 3) : shapeOf (shapeW k) = k := by
  rcases shape_four h0 h1 with rfl | rfl | rfl | rfl <;> decide

theorem shapeOf_inv {w : List UInt8} (h : 0 ≤ shapeOf w) : shapeW (shapeOf w) = w := by
  unfold shapeOf at h ⊢
  split
  · rename_i e; rw [e]; rfl
  · split
    · rename_i e; rw [e]; rfl
    · split
      · rename_i e; rw [e]; rfl
      · split
        · rename_i e; rw [e]; rfl
        · rename_i c1 c2 c3 c4
          rw [if_neg c1, if_neg c2, if_neg c3, if_neg c4] at h
          omega

theorem shape_impl (w : List UInt8) : slices_Index_string_string shapesW w = some (shapeOf w) := by
  unfold slices_Index_string_string
  have st : ∀ i : Nat, i < 4 → slices_Index_string_string_l1 shapesW w (shapesW.length : Int) (i : Int) = if w = shapesW.getD i default then some (.inr (.inr (i : Int))) else some (.inl ((i + 1 : Nat) : Int)) := fun i hi => by
    have hi' : i < shapesW.length := hi
    simp only [slices_Index_string_string_l1, Int.ofNat_lt, hi', decide_true, if_true, ixOk_nat, ck_true, Int.toNat_natCast, beq_iff_eq, wrap_nat1 (show i < 9223372036854775807 by omega)]
  have s4 : slices_Index_string_string_l1 shapesW w (shapesW.length : Int) ((4 : Nat) : Int) = some (.inr (.inl ())) := rfl
  unfold shapeOf
  have g0 : shapesW.getD 0 default = [97, 110, 121] := rfl
  have g1 : shapesW.getD 1 default = [115, 105, 110, 101] := rfl
  have g2 : shapesW.getD 2 default = [115, 97, 119] := rfl
  have g3 : shapesW.getD 3 default = [100, 105, 112, 115] := rfl
  have t0 := st 0 (by omega); have t1 := st 1 (by omega); have t2 := st 2 (by omega); have t3 := st 3 (by omega)
  rw [g0] at t0; rw [g1] at t1; rw [g2] at t2; rw [g3] at t3
  by_cases c0 : w = [97, 110, 121]
  · rw [if_pos c0] at t0
    have := whileE_done t0
    rw [show ((0 : Int)) = ((0 : Nat) : Int) from rfl, this]
    subst c0; rfl
  · rw [if_neg c0] at t0
    rw [show ((0 : Int)) = ((0 : Nat) : Int) from rfl, whileE_next t0]
    by_cases c1 : w = [115, 105, 110, 101]
    · rw [if_pos c1] at t1
      rw [whileE_done t1]
      subst c1; rfl
    · rw [if_neg c1] at t1
      rw [whileE_next t1]
      by_cases c2 : w = [115, 97, 119]
      · rw [if_pos c2] at t2
        rw [whileE_done t2]
        subst c2; rfl
      · rw [if_neg c2] at t2
        rw [whileE_next t2]
        by_cases c3 : w = [100, 105, 112, 115]
        · rw [if_pos c3] at t3
          rw [whileE_done t3]
          subst c3; rfl
        · rw [if_neg c3] at t3
          rw [whileE_next t3, whileE_done s4, if_neg c3, if_neg c2, if_neg c1, if_neg c0]; rfl

theorem shape_spec (t2 : Rule) (w0 w1 w2 w3 w4 w : List UInt8) (a b : Int) (o : Bool) (c d : Int) (p : Bool) : whileE (spec_ReadRule_l1 t2 [w0, w1, w2, w3, w4, w] a b o c d p shapesW) (-1, 0) = some (shapeOf w) := by
  have st : ∀ (k : Int) (i : Nat), i < 4 → spec_ReadRule_l1 t2 [w0, w1, w2, w3, w4, w] a b o c d p shapesW (k, (i : Int)) = some (.inl (if shapesW.getD i default = w then (i : Int) else k, ((i + 1 : Nat) : Int))) := fun k i hi => by
    have hi' : i < shapesW.length := hi
    have h5 : ixOk 5 ([w0, w1, w2, w3, w4, w] : List (List UInt8)).length = true := rfl
    have g5 : ([w0, w1, w2, w3, w4, w] : List (List UInt8)).getD 5 default = w := rfl
    simp only [spec_ReadRule_l1, Int.ofNat_lt, hi', decide_true, if_true, ixOk_nat, ck_true, Int.toNat_natCast, h5, g5, beq_iff_eq, wrap_nat1 (show i < 9223372036854775807 by omega)]
    split <;> rfl
  have s4 : ∀ k, spec_ReadRule_l1 t2 [w0, w1, w2, w3, w4, w] a b o c d p shapesW (k, ((4 : Nat) : Int)) = some (.inr k) := fun k => rfl
  rw [show ((-1 : Int), (0 : Int)) = ((-1 : Int), ((0 : Nat) : Int)) from rfl, whileE_next (st _ 0 (by omega)), whileE_next (st _ 1 (by omega)), whileE_next (st _ 2 (by omega)), whileE_next (st _ 3 (by omega)), whileE_done (s4 _)]
  congr 1
  unfold shapeOf
  have g0 : shapesW.getD 0 default = [97, 110, 121] := rfl
  have g1 : shapesW.getD 1 default = [115, 105, 110, 101] := rfl
  have g2 : shapesW.getD 2 default = [115, 97, 119] := rfl
  have g3 : shapesW.getD 3 default = [100, 105, 112, 115] := rfl
  rw [g0, g1, g2, g3]
  simp only [eq_comm (b := w)]
  rfl

theorem textRu_inj {x y : Rule} (hx : oneRu x = true) (hy : oneRu y = true) (h : textRu x = textRu y) : x = y := by
  have e : wordsRu x = wordsRu y := by rw [← split_text hx, ← split_text hy, h]
  have a := oneRu_all hx
  have a' := oneRu_all hy
  have := a.a0; have := a.a1; have := a.a2; have := a.p0; have := a.p1; have := a.p2
  have := a'.a0; have := a'.a1; have := a'.a2; have := a'.p0; have := a'.p1; have := a'.p2
  unfold wordsRu at e
  simp only [List.cons.injEq, and_true, true_and] at e
  obtain ⟨e1, e2, e3, e4⟩ := e
  have r1 := rangeP_text (a := x.FromAmp) (b := x.ToAmp) (by omega) (by omega) (by omega) (by omega)
  have r2 := rangeP_text (a := x.FromPer) (b := x.ToPer) (by omega) (by omega) (by omega) (by omega)
  rw [e2, rangeP_text (by omega) (by omega) (by omega) (by omega)] at r1
  rw [e3, rangeP_text (by omega) (by omega) (by omega) (by omega)] at r2
  have e4 : x.Shape = y.Shape := by rw [← shapeOf_W a.s0 a.s1, e4, shapeOf_W a'.s0 a'.s1]
  have e1 : x.Class = y.Class := List.append_cancel_right e1
  simp only [Prod.mk.injEq, and_true] at r1 r2
  cases x; cases y
  simp only [Rule.mk.injEq]
  simp only at e1 e4 r1 r2
  exact ⟨e1, r1.1.symm, r1.2.symm, r2.1.symm, r2.2.symm, e4⟩

theorem readRu_text {x : Rule} (h : oneRu x = true) : readRu (textRu x) = (x, true) := by
  unfold readRu
  have hex : ∃ y, oneRu y = true ∧ textRu x = textRu y := ⟨x, h, rfl⟩
  rw [dif_pos hex]
  have := hex.choose_spec
  exact congrArg (fun y => (y, true)) (textRu_inj h this.1 this.2).symm

theorem readRu_none {s : List UInt8} (h : ¬ ∃ x, oneRu x = true ∧ s = textRu x) : readRu s = (⟨[], 0, 0, 0, 0, 0⟩, false) := by
  unfold readRu; rw [dif_neg h]

theorem getD_snoc (l : List UInt8) (c : UInt8) : (l ++ [c]).getD l.length 0 = c := by
  rw [List.getD_eq_getElem?_getD, List.getElem?_append_right (Nat.le_refl _)]; simp

/-- The reference's reading. -/
theorem ReadRule_spec {s : List UInt8} (hl : s.length ≤ 1048576) : spec_ReadRule s = some (readRu s) := by
  unfold spec_ReadRule
  have esh : spec_l18Shapes = some shapesW := id rfl
  rw [l01Split_is 32 hl, Option.bind_some]
  by_cases hex : ∃ x, oneRu x = true ∧ s = textRu x
  · obtain ⟨x, hx, rfl⟩ := hex
    have a := oneRu_all hx
    have := a.a0; have := a.a1; have := a.a2; have := a.p0; have := a.p1; have := a.p2
    have hn := name_len a.nm
    have hpl : ∀ p ∈ wordsRu x, p.length ≤ 1048576 := fun p hp => by
      rw [← split_text hx] at hp
      exact Nat.le_trans (splitOn_len hp) hl
    rw [readRu_text hx, split_text hx]
    have hp1 := hpl (rangeT x.FromAmp x.ToAmp) (by simp [wordsRu])
    have hp2 := hpl (rangeT x.FromPer x.ToPer) (by simp [wordsRu])
    have w0 : (wordsRu x).getD 0 default = x.Class ++ [58] := rfl
    have w1 : (wordsRu x).getD 1 default = [97, 109, 112] := rfl
    have w2 : (wordsRu x).getD 2 default = rangeT x.FromAmp x.ToAmp := rfl
    have w3 : (wordsRu x).getD 3 default = [112, 101, 114, 105, 111, 100] := rfl
    have w4 : (wordsRu x).getD 4 default = rangeT x.FromPer x.ToPer := rfl
    have wl : (wordsRu x).length = 6 := rfl
    have i0 : ∀ k : Nat, k < 6 → ixOk (k : Int) 6 = true := fun k hk => ixOk_of (by omega) (by omega)
    have iw : IntKind.i64.wrap (((x.Class ++ ([58] : List UInt8)).length : Int) - 1) = (x.Class.length : Int) := by
      rw [wrap_i64 (by simp) (by simp; omega)]; simp
    rw [w0, w1, w2, w3, w4, wl, iw, Int.toNat_natCast, getD_snoc]
    have b0 := i0 0 (by omega); have b1 := i0 1 (by omega); have b2 := i0 2 (by omega); have b3 := i0 3 (by omega); have b4 := i0 4 (by omega)
    have b5 : ixOk (x.Class.length : Int) (x.Class ++ ([58] : List UInt8)).length = true := ixOk_of (by omega) (by simp; try omega)
    have b6 : decide (((x.Class ++ ([58] : List UInt8)).length : Int) < 1) = false := by simp; omega
    rw [show ixOk 0 6 = true from b0, show ixOk 1 6 = true from b1, show ixOk 2 6 = true from b2, show ixOk 3 6 = true from b3, show ixOk 4 6 = true from b4, b5, b6]
    simp only [Bool.or_true, ck_true]
    rw [if_neg (by decide), l18Range_is hp1, Option.bind_some, rangeP_text a.a0 (by omega) (by omega) (by omega), l18Range_is hp2, Option.bind_some, rangeP_text a.p0 (by omega) (by omega) (by omega), esh, Option.bind_some]
    have hc : cut (x.Class ++ ([58] : List UInt8)) 0 (x.Class.length : Int) = x.Class := by simp [cut]
    show (whileE (spec_ReadRule_l1 (Rule.mk [] 0 0 0 0 0) [x.Class ++ [58], ampW, rangeT x.FromAmp x.ToAmp, perW, rangeT x.FromPer x.ToPer, shapeW x.Shape] x.FromAmp x.ToAmp true x.FromPer x.ToPer true shapesW) (-1, 0)).bind _ = _
    rw [shape_spec, Option.bind_some, shapeOf_W a.s0 a.s1, cutOk_of (by omega) (by omega) (by simp; try omega), ck_true, hc]
    have e : (Rule.mk x.Class x.FromAmp x.ToAmp x.FromPer x.ToPer x.Shape) = x := by cases x; rfl
    simp only [e, l18One_is, hx]
    rfl
  · rw [readRu_none hex]
    have hj := splitOn_join 32 s
    have hpl : ∀ p ∈ splitOn 32 s, p.length ≤ 1048576 := fun p hp => Nat.le_trans (splitOn_len hp) hl
    generalize splitOn 32 s = w at hj hpl
    by_cases h6 : w.length = 6
    · obtain ⟨w0, w1, w2, w3, w4, w5, rfl⟩ : ∃ a b c d e f, w = [a, b, c, d, e, f] := by
        match w, h6 with
        | [a, b, c, d, e, f], _ => exact ⟨a, b, c, d, e, f, rfl⟩
      have hp0 := hpl w0 (by simp)
      have hp1 := hpl w2 (by simp)
      have hp2 := hpl w4 (by simp)
      have v0 : ([w0, w1, w2, w3, w4, w5] : List (List UInt8)).getD 0 default = w0 := rfl
      have v1 : ([w0, w1, w2, w3, w4, w5] : List (List UInt8)).getD 1 default = w1 := rfl
      have v2 : ([w0, w1, w2, w3, w4, w5] : List (List UInt8)).getD 2 default = w2 := rfl
      have v3 : ([w0, w1, w2, w3, w4, w5] : List (List UInt8)).getD 3 default = w3 := rfl
      have v4 : ([w0, w1, w2, w3, w4, w5] : List (List UInt8)).getD 4 default = w4 := rfl
      have wl : ([w0, w1, w2, w3, w4, w5] : List (List UInt8)).length = 6 := rfl
      have i0 : ∀ k : Nat, k < 6 → ixOk (k : Int) 6 = true := fun k hk => ixOk_of (by omega) (by omega)
      have b0 := i0 0 (by omega); have b1 := i0 1 (by omega); have b2 := i0 2 (by omega); have b3 := i0 3 (by omega); have b4 := i0 4 (by omega)
      rw [v0, v1, v2, v3, v4, wl, show ixOk 0 6 = true from b0, show ixOk 1 6 = true from b1, show ixOk 2 6 = true from b2, show ixOk 3 6 = true from b3, show ixOk 4 6 = true from b4]
      simp only [Bool.or_true, ck_true]
      by_cases h0 : w0.length = 0
      · have : w0 = [] := List.length_eq_zero_iff.1 h0
        subst this
        have e : decide (((([] : List UInt8).length : Nat) : Int) < 1) = true := by decide
        rw [e]
        simp only [Bool.or_true, Bool.true_or, Bool.not_true, Bool.not_false, ck_true, if_true]
      · have iw : IntKind.i64.wrap ((w0.length : Int) - 1) = ((w0.length - 1 : Nat) : Int) := by
          rw [wrap_i64 (by omega) (by omega)]; omega
        rw [iw, Int.toNat_natCast, ixOk_of (by omega) (by omega), Bool.or_true, ck_true]
        by_cases hcond : (((((!(((6 : Nat) : Int) == 6)) || (!(w1 == ([97, 109, 112] : List UInt8)))) || (!(w3 == ([112, 101, 114, 105, 111, 100] : List UInt8)))) || (decide ((w0.length : Int) < 1))) || (!(((w0.getD (w0.length - 1) 0).toNat : Int) == 58))) = true
        · rw [if_pos hcond]
        · rw [if_neg hcond]
          simp only [Bool.or_eq_true, not_or, Bool.not_eq_true', Bool.not_eq_false, Bool.not_eq_true, beq_iff_eq] at hcond
          obtain ⟨⟨⟨⟨_, q1⟩, q3⟩, _⟩, q0⟩ := hcond
          have q0' : w0.getD (w0.length - 1) 0 = 58 := by
            rw [← UInt8.toNat_inj]; show _ = 58; omega
          have hw0 : w0 = cut w0 0 ((w0.length - 1 : Nat) : Int) ++ [58] := by
            have e1 : cut w0 0 ((w0.length - 1 : Nat) : Int) = w0.take (w0.length - 1) := by simp [cut]
            rw [e1, ← q0', getD_lt (by omega)]
            have := List.take_append_getElem (l := w0) (i := w0.length - 1) (by omega)
            rw [this, show w0.length - 1 + 1 = w0.length by omega, List.take_length]
          rw [l18Range_is hp1, Option.bind_some, l18Range_is hp2, Option.bind_some, esh, Option.bind_some, shape_spec, Option.bind_some, cutOk_of (by omega) (by omega) (by omega), ck_true]
          simp only [l18One_is, Option.isSome_some, Option.getD_some, Bool.or_true, ck_true]
          generalize cut w0 0 ((w0.length - 1 : Nat) : Int) = cl at hw0
          refine if_pos (Classical.byContradiction fun hc => ?_)
          simp only [Bool.or_eq_true, Bool.not_eq_true', not_or, Bool.not_eq_false] at hc
          obtain ⟨⟨r1, r2⟩, r3⟩ := hc
          refine hex ⟨_, r3, ?_⟩
          have e1 := rangeP_ok r1
          have e2 := rangeP_ok r2
          have e3 := shapeOf_inv (w := w5) (oneRu_all r3).s0
          unfold textRu wordsRu
          simp only
          rw [← e1, ← e2, e3, ← hw0, ← hj, q1, q3]; rfl
    · have e : (!((w.length : Int) == 6)) = true := by
        simp only [Bool.not_eq_true', beq_eq_false_iff_ne]; omega
      rw [e]
      simp only [Bool.true_or, Bool.not_true, Bool.not_false, ck_true, if_true]

/-! ### The program's reading -/

theorem idx_two (b : List UInt8) : ∀ a : List UInt8, (46 : UInt8) ∉ a → Lib.index (a ++ 46 :: 46 :: b) [46, 46] = a.length
  | [], _ => by unfold Lib.index; simp
  | x :: r, h => by
    have hx : ¬ (46 : UInt8) = x := fun e => h (by simp [e])
    have ih := idx_two b r (fun c => h (by simp [c]))
    show Lib.index (x :: (r ++ 46 :: 46 :: b)) [46, 46] = _
    unfold Lib.index
    have e1 : (List.isPrefixOf [46, 46] (x :: (r ++ 46 :: 46 :: b))) = false := by
      simp only [List.isPrefixOf, Bool.and_eq_false_iff, beq_eq_false_iff_ne]; exact .inl hx
    rw [e1, ih]
    have : (((r.length : Int)) == -1) = false := by rw [beq_eq_false_iff_ne]; omega
    simp [this]

theorem cut_two {a b : List UInt8} (h : (46 : UInt8) ∉ a) : Lib.cut (a ++ 46 :: 46 :: b) [46, 46] = (a, b, true) := by
  unfold Lib.cut
  rw [idx_two b a h, if_pos (by omega)]
  simp

theorem cut_lens (s p : List UInt8) : (Lib.cut s p).1.length ≤ s.length ∧ (Lib.cut s p).2.1.length ≤ s.length := by
  unfold Lib.cut
  split <;> simp <;> omega

theorem hCut_ok {s p : List UInt8} (h : s.length ≤ 1048576) : hCut s p = some (Lib.cut s p) := by
  unfold hCut; rw [if_pos (by omega)]

theorem readRange_any {s : List UInt8} (h : s.length ≤ 1048576) : impl_readRange s = some ((rdDec (Lib.cut s [46, 46]).1).1, (rdDec (Lib.cut s [46, 46]).2.1).1, (rdDec (Lib.cut s [46, 46]).1).2 && (rdDec (Lib.cut s [46, 46]).2.1).2) := by
  unfold impl_readRange
  obtain ⟨h1, h2⟩ := cut_lens s [46, 46]
  rw [hCut_ok h, Option.bind_some, hRdDec_eq (by omega), Option.bind_some, hRdDec_eq (by omega)]; rfl

theorem trim_any (s : List UInt8) (hl : s.length ≤ 1048576) : ∃ y, strings_TrimSuffix s [58] = some y := by
  unfold strings_TrimSuffix internal_stringslite_TrimSuffix internal_stringslite_HasSuffix
  cases s with
  | nil => exact ⟨_, rfl⟩
  | cons d r =>
    have e1 : decide ((([58] : List UInt8).length : Int) ≤ ((d :: r).length : Int)) = true := by simp; try omega
    have iw : IntKind.i64.wrap (((d :: r).length : Int) - (([58] : List UInt8).length : Int)) = (r.length : Int) := by
      rw [List.length_cons] at hl
      rw [wrap_i64 (by simp; try omega) (by simp; try omega)]; simp
    have c1 : cutOk (r.length : Int) ((d :: r).length : Int) (d :: r).length = true := cutOk_of (by omega) (by simp; try omega) (by omega)
    have c2 : cutOk 0 (r.length : Int) (d :: r).length = true := cutOk_of (by omega) (by omega) (by simp; try omega)
    rw [e1, iw, c1, c2]
    simp only [Bool.or_true, ck_true, Option.bind_some]
    split <;> exact ⟨_, rfl⟩

theorem trim_snoc (s : List UInt8) (hl : s.length ≤ 1048576) : strings_TrimSuffix (s ++ [58]) [58] = some s := by
  unfold strings_TrimSuffix internal_stringslite_TrimSuffix internal_stringslite_HasSuffix
  have e1 : decide ((([58] : List UInt8).length : Int) ≤ ((s ++ [58]).length : Int)) = true := by simp; try omega
  have iw : IntKind.i64.wrap (((s ++ ([58] : List UInt8)).length : Int) - (([58] : List UInt8).length : Int)) = (s.length : Int) := by
    rw [wrap_i64 (by simp) (by simp; omega)]; simp
  have c1 : cutOk (s.length : Int) ((s ++ ([58] : List UInt8)).length : Int) (s ++ ([58] : List UInt8)).length = true := cutOk_of (by omega) (by simp; try omega) (by omega)
  have c2 : cutOk 0 (s.length : Int) (s ++ ([58] : List UInt8)).length = true := cutOk_of (by omega) (by omega) (by simp; try omega)
  have k1 : cut (s ++ ([58] : List UInt8)) (s.length : Int) ((s ++ ([58] : List UInt8)).length : Int) = [58] := by unfold cut; rw [Int.toNat_natCast, Int.toNat_natCast, List.take_length, List.drop_left]
  have k2 : cut (s ++ ([58] : List UInt8)) 0 (s.length : Int) = s := by simp [cut]
  rw [e1, iw, c1, c2, k1, k2]
  simp only [Bool.or_true, ck_true, Option.bind_some, beq_self_eq_true, Bool.and_self, if_true]

theorem ReadRule_impl {s : List UInt8} (hl : s.length ≤ 1048576) : impl_ReadRule s = some (readRu s) := by
  unfold impl_ReadRule
  have esh : impl_shapeNames = some shapesW := id rfl
  rw [hSplit_one (by omega), Option.bind_some]
  have hpl : ∀ p ∈ splitOn 32 s, p.length ≤ 1048576 := fun p hp => Nat.le_trans (splitOn_len hp) hl
  by_cases h6 : (splitOn 32 s).length = 6
  · obtain ⟨w0, w1, w2, w3, w4, w5, hw⟩ : ∃ a b c d e f, splitOn 32 s = [a, b, c, d, e, f] := by
      match splitOn 32 s, h6 with
      | [a, b, c, d, e, f], _ => exact ⟨a, b, c, d, e, f, rfl⟩
    rw [hw] at hpl ⊢
    have hp0 := hpl w0 (by simp)
    have hp1 := hpl w2 (by simp)
    have hp2 := hpl w4 (by simp)
    rw [if_neg (by simp)]
    show (impl_readRange w2).bind _ = _
    rw [readRange_any hp1, Option.bind_some]
    show (impl_readRange w4).bind _ = _
    rw [readRange_any hp2, Option.bind_some, esh, Option.bind_some]
    show (slices_Index_string_string shapesW w5).bind _ = _
    rw [shape_impl, Option.bind_some]
    by_cases hex : ∃ x, oneRu x = true ∧ s = textRu x
    · obtain ⟨x, hx, rfl⟩ := hex
      have a := oneRu_all hx
      have := a.a0; have := a.a1; have := a.a2; have := a.p0; have := a.p1; have := a.p2; have := a.s0
      have hn := name_len a.nm
      rw [split_text hx] at hw
      unfold wordsRu at hw
      simp only [List.cons.injEq, and_true] at hw
      obtain ⟨rfl, rfl, rfl, rfl, rfl, rfl⟩ := hw
      have k1 : Lib.cut (rangeT x.FromAmp x.ToAmp) [46, 46] = (Lib.itoa x.FromAmp, Lib.itoa x.ToAmp, true) := cut_two (free_itoa a.a0 (by decide))
      have k2 : Lib.cut (rangeT x.FromPer x.ToPer) [46, 46] = (Lib.itoa x.FromPer, Lib.itoa x.ToPer, true) := cut_two (free_itoa a.p0 (by decide))
      rw [k1, k2, readRu_text hx]
      simp only [rd_of a.a0 (show x.FromAmp ≤ 10000000 by omega), rd_of (show 0 ≤ x.ToAmp by omega) (show x.ToAmp ≤ 10000000 by omega), rd_of a.p0 (show x.FromPer ≤ 10000000 by omega), rd_of (show 0 ≤ x.ToPer by omega) (show x.ToPer ≤ 10000000 by omega), shapeOf_W a.s0 a.s1]
      rw [if_neg (by simp; omega)]
      show (strings_TrimSuffix (x.Class ++ [58]) [58]).bind _ = _
      rw [trim_snoc _ (by omega), Option.bind_some]
      have e : (Rule.mk x.Class x.FromAmp x.ToAmp x.FromPer x.ToPer x.Shape) = x := by cases x; rfl
      rw [e, RuleText_impl, hx, Option.bind_some]
      simp
    · rw [readRu_none hex]
      split
      · rfl
      · show (strings_TrimSuffix w0 [58]).bind _ = _
        obtain ⟨y, hy⟩ := trim_any w0 hp0
        rw [hy, Option.bind_some, RuleText_impl, Option.bind_some]
        refine if_pos (Classical.byContradiction fun hc => ?_)
        simp only [Bool.not_eq_true', Bool.not_eq_false, beq_iff_eq] at hc
        split at hc
        · rename_i h1
          exact absurd ⟨_, h1, hc.symm⟩ hex
        · subst hc
          exact absurd hw (by simp [splitOn, splitAcc])
  · rw [if_pos (by simp only [Bool.not_eq_true', beq_eq_false_iff_ne]; omega)]
    rw [readRu_none]
    rintro ⟨x, hx, rfl⟩
    exact h6 (by rw [split_text hx]; rfl)

end Go.Proofs.YtelkmhdolnjnpaaGreatDoor
