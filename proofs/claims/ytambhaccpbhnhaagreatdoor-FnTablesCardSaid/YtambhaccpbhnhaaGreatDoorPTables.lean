/- The plain law of FnTables. No condition. -/
import Derived.Test.YtambhaccpbhnhaaGreatDoorHTabL
import Derived.Test.YtambhaccpbhnhaaGreatDoorHWrap
import Derived.Test.YtambhaccpbhnhaaGreatDoorHPage
import Derived.Test.YtambhaccpbhnhaaGreatDoorHDrawK
namespace Go.Proofs.YtambhaccpbhnhaaGreatDoor
open Go Go.RowKit
set_option linter.unusedSimpArgs false
set_option linter.unusedVariables false

theorem texts_self {a : List (List UInt8)} (h : a.length ≤ 1099511627776) : laws_f6texts a a = some true := by
  unfold laws_f6texts
  have e : (!((a.length : Int) == (a.length : Int))) = false := by simp
  rw [e]
  simp only [Bool.false_eq_true, if_false]
  rw [while_all (step := laws_f6texts_l1 a a) (fun i => true) a.length true (yes := .inl ()) (no := .inr false) (by simp) (fun i hi => by
    simp only [laws_f6texts_l1, Int.ofNat_lt, hi, decide_true, if_true, ixOk_nat, ck_true, Int.toNat_natCast, wrap_nat1 (show i < 9223372036854775807 by omega), beq_self_eq_true, Bool.not_true, Bool.false_eq_true, if_false]) (by simp [laws_f6texts_l1])]
  rfl

theorem ints_self {a : List Int} (h : a.length ≤ 1099511627776) : laws_f6ints a a = some true := by
  unfold laws_f6ints
  have e : (!((a.length : Int) == (a.length : Int))) = false := by simp
  rw [e]
  simp only [Bool.false_eq_true, if_false]
  rw [while_all (step := laws_f6ints_l1 a a) (fun i => true) a.length true (yes := .inl ()) (no := .inr false) (by simp) (fun i hi => by
    simp only [laws_f6ints_l1, Int.ofNat_lt, hi, decide_true, if_true, ixOk_nat, ck_true, Int.toNat_natCast, wrap_nat1 (show i < 9223372036854775807 by omega), beq_self_eq_true, Bool.not_true, Bool.false_eq_true, if_false]) (by simp [laws_f6ints_l1])]
  rfl

theorem from_one {ρ : Type} {step : Int → Option (Int ⊕ ρ)} (n : Nat) {yes : ρ} (hs : ∀ i : Nat, 1 ≤ i → i < n → step (i : Int) = some (.inl ((i + 1 : Nat) : Int))) (he : ∀ i : Nat, n ≤ i → step (i : Int) = some (.inr yes)) : whileE step 1 = some yes := by
  have key : ∀ m i : Nat, 1 ≤ i → i + m = n → whileE step (i : Int) = some yes := by
    intro m
    induction m with
    | zero => intro i _ hi; exact whileE_done (he i (by omega))
    | succ m ih =>
      intro i h1 hi
      rw [whileE_next (hs i h1 (by omega))]
      exact ih (i + 1) (by omega) (by omega)
  by_cases h : 1 ≤ n
  · exact key (n - 1) 1 (Nat.le_refl _) (by omega)
  · exact whileE_done (he 1 (by omega))

theorem table_facts {rows : Tb} (h : SmallT rows) (sides : List UInt8) : ∃ o c, tableT rows sides = (o, c) ∧ o.length ≤ 1000 ∧ ∀ i, i < o.length → (o.getD i default).length = (o.getD 0 default).length := by
  unfold tableT
  have h0 : ∀ i, i < ([] : List (List UInt8)).length → (([] : List (List UInt8)).getD i default).length = (([] : List (List UInt8)).getD 0 default).length := fun i hi => absurd hi (by simp)
  split
  · rename_i hc
    split
    · refine ⟨_, _, rfl, by simp [linesT]; exact h.1, fun i hi => ?_⟩
      have hi : i < rows.length := by simpa [linesT] using hi
      unfold linesT
      rw [tabr_getD _ _ _ _ hi, tabr_getD _ _ _ _ (show 0 < rows.length by omega)]
      exact lineT_len hi (by omega)
    · exact ⟨_, _, rfl, by simp, h0⟩
  · exact ⟨_, _, rfl, by simp, h0⟩

theorem pages_loop {l : List (List UInt8)} (hl : l.length ≤ 1000000) {each : Int} (he : 1 ≤ each ∧ each ≤ 60) (w : Int) (a : List UInt8) (n : Int) (b : List UInt8) :
    whileE (laws_FnTables_l3 l each ((pagesN l.length each.toNat : Nat) : Int) w a n b) (0, 0) = some (.inl (l.length : Int)) := by
  obtain ⟨e, rfl⟩ : ∃ e : Nat, each = (e : Int) := ⟨each.toNat, by omega⟩
  have h0 : 0 < e := by omega
  have hle := pagesN_le (n := l.length) h0
  have hge := pagesN_ge (n := l.length) h0
  simp only [Int.toNat_natCast]
  have e1 := while_up (step := laws_FnTables_l3 l (e : Int) ((pagesN l.length e : Nat) : Int) w a n b) (fun k => ((min (k * e) l.length : Nat) : Int)) (pagesN l.length e) (r := .inl (l.length : Int)) (fun k hk => by
    have hlt := pagesN_lt h0 hk
    have hs : (k + 1) * e = k * e + e := Nat.succ_mul k e
    have hp : pageR l (e : Int) (k : Int) = (pageT l e k, 0) := by
      unfold pageR
      rw [if_pos (by simp; omega), if_pos (by simp; omega)]
      rfl
    have hlen := pageT_len (lines := l) hlt h0
    simp only [laws_FnTables_l3, Int.ofNat_lt, hk, decide_true, if_true, Page_impl hl, hp, Option.bind_some, beq_self_eq_true, Bool.not_true, Bool.false_or, wrap_nat1 (show k < 9223372036854775807 by omega)]
    have hne : ((((pageT l e k).length : Nat) : Int) == 0) = false := by rw [beq_eq_false_iff_ne]; omega
    rw [hne, if_neg Bool.false_ne_true, wrap_i64 (by omega) (by omega)]
    congr 3
    omega) (by
    simp only [laws_FnTables_l3, Int.lt_irrefl, decide_false, Bool.false_eq_true, if_false]
    congr 3
    omega)
  rw [Nat.zero_mul, Nat.zero_min] at e1
  exact e1

theorem law_l4 : laws_FnTables_l4 = laws_FnTables_l3 := by
  funext l each many w a n b s
  obtain ⟨x, y⟩ := s
  rfl

theorem wrap_loop {s : List UInt8} {width : Int} {o : List (List UInt8)} (hw : width ≤ 80) (ho : o.length ≤ 2001) (hx : ∀ x ∈ o, (x.length : Int) ≤ width) (l : List (List UInt8)) (e m k w : Int) (a : List UInt8) (n : Int) (b : List UInt8) :
    whileE (laws_FnTables_l2 s width o l e m k w a n b) (([] : List UInt8), 0) = some (.inl (glue o)) := by
  refine while_up (step := laws_FnTables_l2 s width o l e m k w a n b) (fun i => glue (o.take i)) o.length (r := .inl (glue o)) (fun i hi => ?_) ?_
  · have ht : o.take (i + 1) = o.take i ++ [o.getD i default] := by rw [List.take_add_one, List.getElem?_eq_getElem hi, getD_lt hi]; rfl
    have hi2 := hx _ (getD_mem hi default)
    have hg := glue_len (b := 80) (l := o.take i) (fun x hq => by have := hx x (List.mem_of_mem_take hq); omega)
    have hlt : (o.take i).length ≤ 2001 := by simp; omega
    have hd : decide (width < ((o.getD i default).length : Int)) = false := decide_eq_false (by omega)
    simp only [laws_FnTables_l2, Int.ofNat_lt, hi, decide_true, if_true, ixOk_nat, ck_true, Int.toNat_natCast, wrap_nat1 (show i < 9223372036854775807 by omega), hd, Bool.false_eq_true, if_false]
    rw [ht, glue_app, glue_one, catOk_of (by omega), ck_true, catOk_of (by rw [List.length_append]; simp only [List.length_cons, List.length_nil]; omega), ck_true, List.append_assoc]
  · simp [laws_FnTables_l2]

theorem pad_len {s : List UInt8} {w : Int} (h : padCode s w = 0) : ((padBlanks s w ++ s).length : Int) = w ∧ ((s ++ padBlanks s w).length : Int) = w := by
  have := padCode_0 h
  unfold padBlanks
  simp only [List.length_append, List.length_replicate]
  omega

theorem law_Tables {c : List UInt8} : laws_FnTables c = some true := by
  unfold laws_FnTables laws_f6big
  simp only [Option.bind_some]
  by_cases hc : 4096 < (c.length : Int)
  · simp [hc]
  have hc' : c.length ≤ 1099511627776 := by omega
  simp only [hc, decide_false, Bool.false_eq_true, if_false]
  obtain ⟨rows, sides, d1, hS, hs⟩ := DrawTableLines_is hc'
  obtain ⟨rows2, d2, hS2⟩ := DrawColumnWidths_is hc'
  obtain ⟨t, w, d3, ht⟩ := DrawWrapText_is hc'
  obtain ⟨l, e, p, d4, hl⟩ := DrawPageOf_is hc'
  obtain ⟨u, v, d5, hu⟩ := DrawPadLeft_is hc'
  obtain ⟨o, k, q1, q2, q3⟩ := table_facts hS sides
  obtain ⟨g, j, g1, g2, g3, g4⟩ := WrapText_same ht w
  have hcw : ((if codeT rows2 = 0 then (colsW rows2 (rows2.getD 0 default).length rows2.length, (0 : Int)) else ([], codeT rows2)).1).length ≤ 1099511627776 := by
    split
    · rename_i h0
      have := (codeT_0 h0)
      simp only [colsW, List.length_map, List.length_range]
      rcases Nat.eq_zero_or_pos rows2.length with h1 | h1
      · have : rows2 = [] := List.length_eq_zero_iff.1 h1
        subst this; show (0 : Nat) ≤ _; omega
      · have := (this.2.2 0 h1).2.1; omega
    · simp
  have hpl : (pageR l e p).1.length ≤ 1099511627776 := by
    unfold pageR
    split
    · split
      · simp only [pageT, cut, List.length_drop, List.length_take]; omega
      · simp
    · simp
  rw [d1, Option.bind_some]
  simp only
  rw [TableLines_impl hS hs, TableLines_spec hS hs, q1, d2]
  simp only [Option.bind_some]
  rw [ColumnWidths_impl hS2, ColumnWidths_spec hS2, d3]
  generalize (if codeT rows2 = 0 then (colsW rows2 (rows2.getD 0 default).length rows2.length, (0 : Int)) else ([], codeT rows2)) = cw at hcw ⊢
  simp only [Option.bind_some]
  rw [g1, g2, d4]
  simp only [Option.bind_some]
  rw [Page_impl hl, Page_spec hl, Pages_impl hl, Pages_spec hl, d5]
  generalize pageR l e p = pg at hpl ⊢
  simp only [Option.bind_some]
  rw [PadLeft_impl hu, PadLeft_spec hu, PadRight_impl hu, PadRight_spec hu]
  simp only [Option.bind_some, beq_self_eq_true, texts_self (show o.length ≤ 1099511627776 by omega), texts_self (show g.length ≤ 1099511627776 by omega), texts_self hpl, ints_self hcw, Option.isSome_some, Option.getD_some, Bool.not_true, Bool.not_false, Bool.or_self, Bool.or_true, ck_true, Bool.false_eq_true, if_false]
  rw [from_one (step := laws_FnTables_l1 _ _ _ _ _ _ _ _ _ _ _ _ _ _) o.length (yes := .inl ()) (fun i h1 hi => by
    have h3 := q3 i hi
    simp only [laws_FnTables_l1, Int.ofNat_lt, hi, decide_true, if_true, ixOk_nat, ck_true, Int.toNat_natCast, wrap_nat1 (show i < 9223372036854775807 by omega), h3, beq_self_eq_true, Bool.not_true, Bool.false_eq_true, if_false]
    rw [ixOk_of (by omega) (by omega), ck_true]) (fun i hi => by
    have : ¬ (i : Int) < (o.length : Int) := by omega
    simp only [laws_FnTables_l1, this, decide_false, Bool.false_eq_true, if_false])]
  simp only [Option.bind_some]
  have hlast : ((!((if padCode u v = 0 then (padBlanks u v ++ u, (0 : Int)) else ([], padCode u v)).2 == 0)) || ((((if padCode u v = 0 then (padBlanks u v ++ u, (0 : Int)) else ([], padCode u v)).1.length : Int) == v) && (((if padCode u v = 0 then (u ++ padBlanks u v, (0 : Int)) else ([], padCode u v)).1.length : Int) == v))) = true := by
    by_cases hp : padCode u v = 0
    · have := pad_len hp
      rw [if_pos hp, if_pos hp]
      simp only [this.1, this.2, beq_self_eq_true, Bool.and_self, Bool.or_true]
    · rw [if_neg hp]
      have : ((padCode u v) == 0) = false := by rw [beq_eq_false_iff_ne]; exact hp
      simp only [this, Bool.not_false, Bool.true_or]
  rw [law_l4]
  have hpages : ∀ (w' : Int) (a : List UInt8) (n : Int) (b : List UInt8), (if (((if (decide (1 ≤ e) && decide (e ≤ 60)) = true then (((pagesN l.length e.toNat : Nat) : Int), (0 : Int)) else (0, 2)).2 == 0) && decide ((if (decide (1 ≤ e) && decide (e ≤ 60)) = true then (((pagesN l.length e.toNat : Nat) : Int), (0 : Int)) else (0, 2)).1 < 100)) = true then
      (whileE (laws_FnTables_l3 l e (if (decide (1 ≤ e) && decide (e ≤ 60)) = true then (((pagesN l.length e.toNat : Nat) : Int), (0 : Int)) else (0, 2)).1 w' a n b) (0, 0)).bind fun y =>
        match y with
        | .inl x => if (!(x == (l.length : Int))) = true then some false else some true
        | .inr x => some x
      else some true) = some true := by
    intro w' a n b
    cases hb : (decide (1 ≤ e) && decide (e ≤ 60))
    · rfl
    · simp only [Bool.and_eq_true, decide_eq_true_eq] at hb
      simp only [if_true, beq_self_eq_true, Bool.true_and, pages_loop hl hb, Option.bind_some, Bool.not_true, Bool.false_eq_true, if_false, ite_self]
  rw [hlast]
  by_cases hj : j = 0
  · subst hj
    obtain ⟨c1, c2, c3, c4, c5⟩ := g4 rfl
    have hwl := words_len t
    have hgl := glue_len (b := 80) (l := g) (fun x hx => by have := c4 x hx; omega)
    have hW : wordsOf (glue g) = wordsOf t := by
      rw [c5, words_glue fun x hx => words_in hx]
    rw [if_pos (show ((0 : Int) == 0) = true from rfl), wrap_loop c1.2 c3 c4]
    simp only [Option.bind_some]
    rw [SplitWords_spec (by omega), SplitWords_spec ht, hW]
    simp only [Option.bind_some]
    rw [texts_self (by omega)]
    simp only [Option.bind_some, Bool.not_true, Bool.false_eq_true, if_false]
    exact hpages _ _ _ _
  · have : (j == 0) = false := by rw [beq_eq_false_iff_ne]; exact hj
    rw [this, if_neg Bool.false_ne_true]
    exact hpages _ _ _ _

end Go.Proofs.YtambhaccpbhnhaaGreatDoor
