/- What typed forms say: the widths of a table's columns, and its lines. No condition. -/
import Derived.Test.YtambhaccpbhnhaaGreatDoorHTab
namespace Go.Proofs.YtambhaccpbhnhaaGreatDoor
open Go Go.RowKit
set_option linter.unusedSimpArgs false
set_option linter.unusedVariables false

/-! ### Lists that are made by an index -/

theorem tabr_getD {α : Type} (g : Nat → α) (n k : Nat) (d : α) (hk : k < n) : ((List.range n).map g).getD k d = g k := by
  rw [getD_lt (by simpa using hk)]; simp

theorem tabr_set {α : Type} (g : Nat → α) (n k : Nat) (v : α) : ((List.range n).map g).set k v = (List.range n).map (fun j => if j = k then v else g j) := by
  apply List.ext_getElem
  · simp
  · intro i h1 h2
    rw [List.getElem_set]
    by_cases h : k = i
    · subst h; simp
    · rw [if_neg h]
      simp [show ¬ i = k from fun e => h e.symm]

theorem tabr_snoc {α : Type} (g : Nat → α) (n : Nat) : (List.range (n + 1)).map g = (List.range n).map g ++ [g n] := by rw [List.range_succ, List.map_append]; rfl

/-! ### The widths -/

def lenT (rows : Tb) (i k : Nat) : Int := (((rows.getD i default).getD k default).length : Int)
def wT (rows : Tb) (k : Nat) : Nat → Int
  | 0 => 0
  | i + 1 => if wT rows k i < lenT rows i k then lenT rows i k else wT rows k i

theorem wT_0 (rows : Tb) (k : Nat) : ∀ i, 0 ≤ wT rows k i
  | 0 => Int.le_refl _
  | i + 1 => by
    have := wT_0 rows k i
    unfold wT
    split <;> omega

theorem wT_le {rows : Tb} {k : Nat} : ∀ {m : Nat}, (∀ i, i < m → lenT rows i k ≤ 80) → wT rows k m ≤ 80
  | 0, _ => by show (0 : Int) ≤ 80; omega
  | m + 1, h => by
    have := wT_le (rows := rows) (k := k) (m := m) (fun i hi => h i (by omega))
    have := h m (by omega)
    unfold wT
    split <;> omega

theorem wT_ge {rows : Tb} {k : Nat} : ∀ {m i : Nat}, i < m → lenT rows i k ≤ wT rows k m
  | 0, i, h => by omega
  | m + 1, i, h => by
    unfold wT
    by_cases e : i = m
    · subst e; split <;> omega
    · have := wT_ge (rows := rows) (k := k) (m := m) (i := i) (by omega)
      split <;> omega

def colsW (rows : Tb) (n i : Nat) : List Int := (List.range n).map (fun k => wT rows k i)

theorem ColumnWidths_impl {rows : Tb} (h : SmallT rows) : impl_ColumnWidths rows = some (if codeT rows = 0 then (colsW rows (rows.getD 0 default).length rows.length, 0) else ([], codeT rows)) := by
  unfold impl_ColumnWidths
  rw [checkTable_is h, Option.bind_some]
  by_cases hc : codeT rows = 0
  · obtain ⟨_, h60, hall⟩ := codeT_0 hc
    rw [hc, if_pos rfl]
    simp only [beq_self_eq_true, Bool.not_true, Bool.false_eq_true, if_false]
    by_cases h0 : rows.length = 0
    · have e : ((rows.length : Int) == 0) = true := by simp [h0]
      rw [e, if_pos rfl]
      have : rows = [] := List.length_eq_zero_iff.1 h0
      subst this; rfl
    · have e : ((rows.length : Int) == 0) = false := by simp [h0]
      rw [e]
      simp only [Bool.false_eq_true, if_false]
      have hp : 0 < rows.length := by omega
      generalize hn : (rows.getD 0 default).length = n
      have hn8 : n ≤ 8 := by have := (hall 0 hp).2.1; omega
      rw [ixOk_of (by omega) (by omega), ck_true, mkOk_of (by omega) (by omega) (by omega), ck_true, Int.toNat_natCast]
      have e1 := while_up (step := impl_ColumnWidths_l1 rows (rows.length : Int)) (fun i => colsW rows n i) rows.length (r := colsW rows n rows.length) (fun i hi => by
        have hri : (rows.getD i default).length = n := by rw [(hall i hi).1, hn]
        simp only [impl_ColumnWidths_l1, Int.ofNat_lt, hi, decide_true, if_true, ixOk_nat, ck_true, Int.toNat_natCast, wrap_nat1 (show i < 9223372036854775807 by omega), hri]
        have e2 := while_up (step := impl_ColumnWidths_l2 rows (rows.length : Int) (i : Int) (rows.getD i default) (n : Int)) (fun k => (List.range n).map (fun j => if j < k then wT rows j (i + 1) else wT rows j i)) n (r := colsW rows n (i + 1)) (fun k hk => by
          simp only [impl_ColumnWidths_l2, Int.ofNat_lt, hk, decide_true, if_true, ixOk_nat, hri, ck_true, Int.toNat_natCast, wrap_nat1 (show k < 9223372036854775807 by omega)]
          have hkk : k < ((List.range n).map (fun j => if j < k then wT rows j (i + 1) else wT rows j i)).length := by simpa using hk
          simp only [hkk, decide_true, ck_true]
          rw [tabr_getD _ n k _ hk, tabr_set]
          simp only [Nat.lt_irrefl, if_false]
          congr 4
          funext j
          by_cases ej : j = k
          · subst ej
            have hlt : j < j + 1 := by omega
            rw [if_pos rfl]
            simp only [hlt, if_true]
            rfl
          · rw [if_neg ej]
            by_cases c : j < k
            · rw [if_pos c, if_pos (by omega)]
            · rw [if_neg c, if_neg (by omega)]) (by
          simp only [impl_ColumnWidths_l2, Int.lt_irrefl, decide_false, Bool.false_eq_true, if_false]
          congr 2
          unfold colsW
          refine List.map_congr_left fun j hj => ?_
          rw [if_pos (List.mem_range.1 hj)])
        have e3 : (List.range n).map (fun j => if j < 0 then wT rows j (i + 1) else wT rows j i) = colsW rows n i := by
          unfold colsW
          refine List.map_congr_left fun j hj => ?_
          rw [if_neg (by omega)]
        rw [e3] at e2
        rw [e2, Option.bind_some]) (by simp [impl_ColumnWidths_l1])
      have e4 : colsW rows n 0 = List.replicate n 0 := by
        unfold colsW wT
        apply List.ext_getElem <;> simp
      rw [e4] at e1
      rw [e1]; rfl
  · rw [if_neg hc]
    have : (!(codeT rows == 0)) = true := by simpa using hc
    rw [this, if_pos rfl]

theorem l00Max_is (a b : Int) : spec_l00Max a b = some (if b < a then a else b) := by
  unfold spec_l00Max
  by_cases h : b < a
  · simp only [h, decide_true, if_true]
  · simp only [h, decide_false, Bool.false_eq_true, if_false]

theorem Widths_spec {rows : Tb} (h : SmallT rows) (hc : codeT rows = 0) : spec_l24Widths rows = some (colsW rows (rows.getD 0 default).length rows.length) := by
  obtain ⟨_, h60, hall⟩ := codeT_0 hc
  generalize hn : (rows.getD 0 default).length = n at *
  have hn8 : 0 < rows.length → n ≤ 8 := fun hp => by have := (hall 0 hp).2.1; omega
  unfold spec_l24Widths
  have e1 := while_up (step := spec_l24Widths_l1 rows) (fun i => if i = 0 then [] else colsW rows n i) rows.length (r := if rows.length = 0 then [] else colsW rows n rows.length) (fun i hi => by
    have hri : (rows.getD i default).length = n := by rw [(hall i hi).1]
    have hn8 := hn8 (by omega)
    simp only [spec_l24Widths_l1, Int.ofNat_lt, hi, decide_true, if_true, wrap_nat1 (show i < 9223372036854775807 by omega)]
    rw [if_neg (show ¬ i + 1 = 0 by omega)]
    by_cases hi0 : i = 0
    · subst hi0
      rw [if_pos rfl]
      have e2 := while_up (step := spec_l24Widths_l2 rows ((0 : Nat) : Int)) (fun k => (List.range k).map (fun j => wT rows j 1)) n (r := colsW rows n 1) (fun k hk => by
        simp only [spec_l24Widths_l2, ixOk_nat, hi, Int.toNat_natCast, decide_true, ck_true, hri, Int.ofNat_lt, hk, if_true, List.length_map, List.length_range, beq_self_eq_true, wrap_nat1 (show k < 9223372036854775807 by omega)]
        have hkk : k < ((List.range k).map (fun j => wT rows j 1) ++ [0]).length := by simp
        rw [appOk_of (by simp; omega), ck_true]
        simp only [hkk, decide_true, ck_true]
        rw [l00Max_is, Option.bind_some]
        have e3 : ((List.range k).map (fun j => wT rows j 1) ++ [0]).getD k default = 0 := by rw [List.getD_eq_getElem?_getD, List.getElem?_append_right (by simp)]; simp
        rw [e3, tabr_snoc]
        congr 3
        have e4 : ∀ (l : List Int) (a b : Int), (l ++ [a]).set l.length b = l ++ [b] := fun l a b => by simp
        have := e4 ((List.range k).map (fun j => wT rows j 1)) 0 (if (((rows.getD 0 default).getD k default).length : Int) < 0 then 0 else (((rows.getD 0 default).getD k default).length : Int))
        rw [List.length_map, List.length_range] at this
        rw [this]
        congr 2
        rw [if_neg (by omega)]
        show _ = if wT rows k 0 < lenT rows 0 k then lenT rows 0 k else wT rows k 0
        unfold wT lenT
        split <;> omega) (by
        simp only [spec_l24Widths_l2, ixOk_nat, hi, Int.toNat_natCast, decide_true, ck_true, hri, Int.lt_irrefl, decide_false, Bool.false_eq_true, if_false]
        rfl)
      have e2' : whileE (spec_l24Widths_l2 rows ((0 : Nat) : Int)) (([] : List Int), 0) = _ := e2
      rw [e2', Option.bind_some]
    · rw [if_neg hi0]
      have e2 := while_up (step := spec_l24Widths_l2 rows (i : Int)) (fun k => (List.range n).map (fun j => if j < k then wT rows j (i + 1) else wT rows j i)) n (r := colsW rows n (i + 1)) (fun k hk => by
        have hkn : ((k : Int) == (n : Int)) = false := by rw [beq_eq_false_iff_ne]; omega
        simp only [spec_l24Widths_l2, ixOk_nat, hi, Int.toNat_natCast, decide_true, ck_true, hri, Int.ofNat_lt, hk, if_true, List.length_map, List.length_range, hkn, Bool.false_eq_true, if_false, wrap_nat1 (show k < 9223372036854775807 by omega)]
        rw [l00Max_is, Option.bind_some, tabr_getD _ n k _ hk, tabr_set]
        simp only [Nat.lt_irrefl, if_false]
        congr 4
        funext j
        by_cases ej : j = k
        · subst ej
          have hlt : j < j + 1 := by omega
          rw [if_pos rfl]
          simp only [hlt, if_true]
          show _ = if wT rows j i < lenT rows i j then lenT rows i j else wT rows j i
          unfold lenT
          split <;> split <;> omega
        · rw [if_neg ej]
          by_cases c : j < k
          · rw [if_pos c, if_pos (by omega)]
          · rw [if_neg c, if_neg (by omega)]) (by
        simp only [spec_l24Widths_l2, ixOk_nat, hi, Int.toNat_natCast, decide_true, ck_true, hri, Int.lt_irrefl, decide_false, Bool.false_eq_true, if_false]
        congr 2
        unfold colsW
        refine List.map_congr_left fun j hj => ?_
        rw [if_pos (List.mem_range.1 hj)])
      have e3 : (List.range n).map (fun j => if j < 0 then wT rows j (i + 1) else wT rows j i) = colsW rows n i := by
        unfold colsW
        refine List.map_congr_left fun j hj => ?_
        rw [if_neg (by omega)]
      rw [e3] at e2
      rw [e2, Option.bind_some]) (by simp [spec_l24Widths_l1])
  rw [if_pos rfl] at e1
  rw [e1, Option.bind_some]
  by_cases h0 : rows.length = 0
  · rw [if_pos h0]
    have : rows = [] := List.length_eq_zero_iff.1 h0
    subst this
    have : n = 0 := by rw [← hn]; rfl
    subst this; rfl
  · rw [if_neg h0]

theorem ColumnWidths_spec {rows : Tb} (h : SmallT rows) : spec_ColumnWidths rows = some (if codeT rows = 0 then (colsW rows (rows.getD 0 default).length rows.length, 0) else ([], codeT rows)) := by
  unfold spec_ColumnWidths
  rw [l24Rows_is h, Option.bind_some]
  by_cases hc : codeT rows = 0
  · rw [Widths_spec h hc, hc, if_pos rfl]; rfl
  · rw [if_neg hc]
    have : (!(codeT rows == 0)) = true := by simpa using hc
    rw [this, if_pos rfl]

/-! ### The lines -/

theorem join_snoc (p x : List UInt8) {l : List (List UInt8)} (h : l ≠ []) : Lib.join (l ++ [x]) p = Lib.join l p ++ p ++ x := by
  cases l with
  | nil => exact absurd rfl h
  | cons y r =>
    rw [List.cons_append, Lib.join_cons, Lib.join_cons]
    unfold Lib.joinTail
    simp

theorem join_lens (p : List UInt8) : ∀ {l l' : List (List UInt8)}, l.map List.length = l'.map List.length → (Lib.join l p).length = (Lib.join l' p).length
  | [], [], _ => rfl
  | [], _ :: _, h => by simp at h
  | _ :: _, [], h => by simp at h
  | x :: r, y :: q, h => by
    simp only [List.map_cons, List.cons.injEq] at h
    rw [Lib.join_cons, Lib.join_cons, List.length_append, List.length_append, h.1]
    congr 1
    have : ∀ (r q : List (List UInt8)), r.map List.length = q.map List.length → (Lib.joinTail p r).length = (Lib.joinTail p q).length := by
      intro r
      induction r with
      | nil => intro q h; cases q with | nil => rfl | cons => simp at h
      | cons a r ih =>
        intro q h
        cases q with
        | nil => simp at h
        | cons b q =>
          simp only [List.map_cons, List.cons.injEq] at h
          have := ih q h.2
          unfold Lib.joinTail at this ⊢
          simp only [List.map_cons, List.flatten_cons, List.length_append, h.1, this]
    exact this r q h.2

theorem join_le (c : UInt8) (b : Nat) : ∀ {l : List (List UInt8)}, (∀ x ∈ l, x.length ≤ b) → (Lib.join l [c]).length ≤ (b + 1) * l.length
  | [], _ => by simp [Lib.join_nil]
  | x :: r, h => by
    rw [Lib.join_cons, List.length_append]
    have : ∀ r : List (List UInt8), (∀ x ∈ r, x.length ≤ b) → (Lib.joinTail [c] r).length ≤ (b + 1) * r.length := by
      intro r
      induction r with
      | nil => intro _; simp [Lib.joinTail]
      | cons a r ih =>
        intro h
        have h1 := ih (fun x hx => h x (List.mem_cons_of_mem _ hx))
        have h2 := h a List.mem_cons_self
        unfold Lib.joinTail at h1 ⊢
        simp only [List.map_cons, List.flatten_cons, List.length_append, List.length_cons, List.length_nil, Nat.mul_add]
        omega
    have h1 := this r (fun x hx => h x (List.mem_cons_of_mem _ hx))
    have h2 := h x List.mem_cons_self
    simp only [List.length_cons, Nat.mul_add]
    omega

def cellT (rows : Tb) (sides : List UInt8) (i k : Nat) : List UInt8 :=
  if (((sides.getD k 0).toNat : Int) == 114) = true then padBlanks ((rows.getD i default).getD k default) (wT rows k rows.length) ++ (rows.getD i default).getD k default
  else (rows.getD i default).getD k default ++ padBlanks ((rows.getD i default).getD k default) (wT rows k rows.length)

def wordsT (rows : Tb) (sides : List UInt8) (i n : Nat) : List (List UInt8) := (List.range n).map (cellT rows sides i)
def lineT (rows : Tb) (sides : List UInt8) (n i : Nat) : List UInt8 := Lib.join (wordsT rows sides i n) [32]
def linesT (rows : Tb) (sides : List UInt8) (n m : Nat) : List (List UInt8) := (List.range m).map (lineT rows sides n)

theorem cellT_len {rows : Tb} {sides : List UInt8} {i k : Nat} (hi : i < rows.length) : ((cellT rows sides i k).length : Int) = wT rows k rows.length := by
  have h1 := wT_ge (rows := rows) (k := k) hi
  unfold lenT at h1
  unfold cellT padBlanks
  split <;> simp only [List.length_append, List.length_replicate] <;> omega

theorem lineT_len {rows : Tb} {sides : List UInt8} {n i j : Nat} (hi : i < rows.length) (hj : j < rows.length) : (lineT rows sides n i).length = (lineT rows sides n j).length := by
  refine join_lens _ ?_
  unfold wordsT
  rw [List.map_map, List.map_map]
  refine List.map_congr_left fun k _ => ?_
  have h1 := cellT_len (sides := sides) (k := k) hi
  have h2 := cellT_len (sides := sides) (k := k) hj
  simp only [Function.comp]
  omega

theorem wordsT_le {rows : Tb} {sides : List UInt8} {n i k : Nat} (hi : i < rows.length) (hw : ∀ k, k < n → wT rows k rows.length ≤ 80) (hk : k ≤ n) : (Lib.join (wordsT rows sides i k) [32]).length ≤ 81 * k := by
  have := join_le 32 80 (l := wordsT rows sides i k) (fun x hx => by
    unfold wordsT at hx
    obtain ⟨j, hj, rfl⟩ := List.mem_map.1 hx
    have h1 := cellT_len (sides := sides) (k := j) hi
    have h2 := hw j (by have := List.mem_range.1 hj; omega)
    omega)
  unfold wordsT at this ⊢
  simpa using this

/-- Every letter of the sides is l or r. -/
def lrC (c : UInt8) : Bool := !((!((c.toNat : Int) == 108)) && (!((c.toNat : Int) == 114)))
def lrB (s : List UInt8) : Bool := s.all lrC

theorem lr_contains (c : UInt8) : ([108, 114] : List UInt8).contains c = lrC c := by
  unfold lrC
  have h1 : (c == 108) = ((c.toNat : Int) == 108) := by
    rw [Bool.eq_iff_iff, beq_iff_eq, beq_iff_eq, ← UInt8.toNat_inj]
    show _ ↔ (c.toNat : Int) = ((108 : UInt8).toNat : Int)
    omega
  have h2 : (c == 114) = ((c.toNat : Int) == 114) := by
    rw [Bool.eq_iff_iff, beq_iff_eq, beq_iff_eq, ← UInt8.toNat_inj]
    show _ ↔ (c.toNat : Int) = ((114 : UInt8).toNat : Int)
    omega
  rw [List.contains_cons, List.contains_cons, List.contains_nil, h1, h2]
  cases ((c.toNat : Int) == 108) <;> cases ((c.toNat : Int) == 114) <;> rfl

theorem dw_nil {p : UInt8 → Bool} : ∀ l : List UInt8, l.dropWhile p = [] ↔ ∀ x ∈ l, p x = true
  | [] => by simp
  | a :: l => by
    have ih := dw_nil (p := p) l
    rw [List.dropWhile_cons]
    cases h : p a
    · simp [h]
    · simp [h, ih]

theorem dw_head {p : UInt8 → Bool} {a : UInt8} {r : List UInt8} : ∀ {l : List UInt8}, l.dropWhile p = a :: r → p a = false
  | [], h => by simp at h
  | b :: l, h => by
    rw [List.dropWhile_cons] at h
    cases hb : p b
    · rw [hb] at h
      simp at h
      rw [← h.1]; exact hb
    · rw [hb] at h
      exact dw_head (l := l) (by simpa using h)

theorem dw_mem {p : UInt8 → Bool} {x : UInt8} : ∀ {l : List UInt8}, x ∈ l.dropWhile p → x ∈ l
  | [], h => by simp at h
  | b :: l, h => by
    rw [List.dropWhile_cons] at h
    cases hb : p b
    · rw [hb] at h; simpa using h
    · rw [hb] at h
      exact List.mem_cons_of_mem _ (dw_mem (l := l) (by simpa using h))

theorem trim_nil (s : List UInt8) : (Lib.trimS s [108, 114] == ([] : List UInt8)) = lrB s := by
  unfold Lib.trimS Lib.trimLeftS Lib.trimRightS lrB
  have hf : (fun x => ([108, 114] : List UInt8).contains x) = lrC := funext lr_contains
  rw [hf, Bool.eq_iff_iff, beq_iff_eq, dw_nil, List.all_eq_true]
  constructor
  · intro h
    have hd : s.reverse.dropWhile lrC = [] := by
      cases hq : s.reverse.dropWhile lrC with
      | nil => rfl
      | cons a r =>
        have h1 := h a (by rw [hq]; simp)
        rw [dw_head hq] at h1; cases h1
    rw [dw_nil] at hd
    exact fun x hx => hd x (by simpa using hx)
  · intro h x hx
    exact h x (by simpa using dw_mem (by simpa using hx : x ∈ s.reverse.dropWhile lrC))

theorem Trim_is {s : List UInt8} (h : s.length ≤ 1000000) : hTrim s [108, 114] = some (Lib.trimS s [108, 114]) := by
  unfold hTrim trimOk
  rw [decide_eq_true (show s.length ≤ 9223372036854775807 by omega)]
  rfl

theorem lr_loop {rows : Tb} {s : List UInt8} (hl : s.length ≤ 1000000) : ∀ (d i : Nat), i + d = s.length → (∀ j, j < i → lrC (s.getD j 0) = true) → whileE (spec_TableLines_l1 rows s) (0, (i : Int)) = some (if lrB s = true then 0 else 2)
  | 0, i, hd, hp => by
    obtain rfl : i = s.length := by omega
    have : lrB s = true := (all_getD s lrC 0).2 hp
    rw [this, if_pos rfl, whileE_done (r := 0) (by simp [spec_TableLines_l1])]
  | d + 1, i, hd, hp => by
    have hi : i < s.length := by omega
    have hs : spec_TableLines_l1 rows s (0, (i : Int)) = some (.inl (if lrC (s.getD i 0) = true then 0 else 2, ((i + 1 : Nat) : Int))) := by
      simp only [spec_TableLines_l1, Int.ofNat_lt, hi, decide_true, beq_self_eq_true, Bool.and_self, if_true, ixOk_nat, ck_true, Int.toNat_natCast, wrap_nat1 (show i < 9223372036854775807 by omega)]
      unfold lrC
      generalize ((!(((s.getD i 0).toNat : Int) == 108)) && (!(((s.getD i 0).toNat : Int) == 114))) = c
      cases c <;> rfl
    rw [whileE_next hs]
    cases hc : lrC (s.getD i 0) with
    | true =>
      rw [if_pos rfl]
      refine lr_loop hl d (i + 1) (by omega) fun j hj => ?_
      by_cases e : j = i
      · rw [e, hc]
      · exact hp j (by omega)
    | false =>
      rw [if_neg Bool.false_ne_true, whileE_done (r := 2) (by simp [spec_TableLines_l1])]
      have : lrB s = false := by
        cases hq : lrB s with
        | false => rfl
        | true => rw [(all_getD s lrC 0).1 hq i hi] at hc; cases hc
      rw [this, if_neg Bool.false_ne_true]

/-- What both programs give. -/
def tableT (rows : Tb) (sides : List UInt8) : List (List UInt8) × Int :=
  if codeT rows = 0 then (if sides.length = (rows.getD 0 default).length ∧ lrB sides = true then (linesT rows sides (rows.getD 0 default).length rows.length, 0) else ([], 2)) else ([], codeT rows)

section
variable {rows : Tb} {sides : List UInt8} {n : Nat}

theorem cell_facts (h : SmallT rows) (hc : codeT rows = 0) (hn : (rows.getD 0 default).length = n) : rows.length ≤ 60 ∧ (0 < rows.length → n ≤ 8) ∧ (∀ i, i < rows.length → (rows.getD i default).length = n) ∧ (∀ k, k < n → wT rows k rows.length ≤ 80) ∧
    ∀ i, i < rows.length → ∀ k, k < n → padCode ((rows.getD i default).getD k default) (wT rows k rows.length) = 0 ∧ ((rows.getD i default).getD k default).length ≤ 80 := by
  obtain ⟨hp, h60, hall⟩ := codeT_0 hc
  rw [hn] at hall
  have hw : ∀ k, k < n → wT rows k rows.length ≤ 80 := fun k hk => wT_le fun i hi => by
    have := (hall i hi).2.2 k (by rw [(hall i hi).1]; exact hk)
    unfold lenT; omega
  refine ⟨h60, fun hp => by have := (hall 0 hp); omega, fun i hi => (hall i hi).1, hw, fun i hi k hk => ⟨padCode_of (hp i hi k (by rw [(hall i hi).1]; exact hk)) ⟨wT_0 _ _ _, hw k hk⟩ ?_, (hall i hi).2.2 k (by rw [(hall i hi).1]; exact hk)⟩⟩
  have := wT_ge (rows := rows) (k := k) hi
  unfold lenT at this
  omega

theorem lines_impl (h : SmallT rows) (hc : codeT rows = 0) (hn : (rows.getD 0 default).length = n) (hs : sides.length = n) : whileE (impl_TableLines_l1 sides (colsW rows n rows.length) rows (rows.length : Int)) (([] : List (List UInt8)), 0) = some (linesT rows sides n rows.length) := by
  obtain ⟨h60, hn8, hlen, hw, hcell⟩ := cell_facts h hc hn
  have e1 := while_up (step := impl_TableLines_l1 sides (colsW rows n rows.length) rows (rows.length : Int)) (fun i => linesT rows sides n i) rows.length (r := linesT rows sides n rows.length) (fun i hi => by
    have hn8 := hn8 (by omega)
    simp only [impl_TableLines_l1, Int.ofNat_lt, hi, decide_true, if_true, ixOk_nat, ck_true, Int.toNat_natCast, wrap_nat1 (show i < 9223372036854775807 by omega), hlen i hi]
    have e2 := while_up (step := impl_TableLines_l2 sides (colsW rows n rows.length) (linesT rows sides n i) rows (rows.length : Int) (i : Int) (rows.getD i default) (n : Int)) (fun k => wordsT rows sides i k) n (r := wordsT rows sides i n) (fun k hk => by
      obtain ⟨c1, c2⟩ := hcell i hi k hk
      simp only [impl_TableLines_l2, Int.ofNat_lt, hk, decide_true, if_true, ixOk_nat, hlen i hi, ck_true, Int.toNat_natCast, wrap_nat1 (show k < 9223372036854775807 by omega), colsW, List.length_map, List.length_range, tabr_getD _ n k _ hk, PadRight_impl (show ((rows.getD i default).getD k default).length ≤ 1000000 by omega), PadLeft_impl (show ((rows.getD i default).getD k default).length ≤ 1000000 by omega), c1, Option.bind_some, hs]
      rw [show wordsT rows sides i (k + 1) = wordsT rows sides i k ++ [cellT rows sides i k] from tabr_snoc _ k]
      have hlk : (wordsT rows sides i k).length = k := by simp [wordsT]
      rw [appOk_of (show ((wordsT rows sides i k).length + _) * 16 ≤ 140737488355328 by simp [hlk]; omega), appOk_of (show ((wordsT rows sides i k).length + _) * 16 ≤ 140737488355328 by simp [hlk]; omega), ck_true, ck_true]
      unfold cellT
      generalize (((sides.getD k 0).toNat : Int) == 114) = q
      cases q <;> rfl) (by simp [impl_TableLines_l2])
    have e2' : whileE (impl_TableLines_l2 sides (colsW rows n rows.length) (linesT rows sides n i) rows (rows.length : Int) (i : Int) (rows.getD i default) (n : Int)) (([] : List (List UInt8)), 0) = some (wordsT rows sides i n) := e2
    rw [e2', Option.bind_some]
    have hj := wordsT_le (sides := sides) hi hw (Nat.le_refl n)
    have hlk : (wordsT rows sides i n).length = n := by simp [wordsT]
    have hJ : hJoin (wordsT rows sides i n) [32] = some (lineT rows sides n i) := by
      unfold hJoin joinOk
      rw [decide_eq_true (show (wordsT rows sides i n).length ≤ 1048576 by omega), decide_eq_true (show (Lib.join (wordsT rows sides i n) [32]).length ≤ 140737488355328 by omega)]
      rfl
    rw [hJ, Option.bind_some]
    have hli : (linesT rows sides n i).length = i := by simp [linesT]
    rw [appOk_of (by rw [hli]; simp; omega), ck_true, show linesT rows sides n (i + 1) = linesT rows sides n i ++ [lineT rows sides n i] from tabr_snoc _ i]) (by simp [impl_TableLines_l1])
  exact e1

theorem lines_spec (h : SmallT rows) (hc : codeT rows = 0) (hn : (rows.getD 0 default).length = n) (hs : sides.length = n) : whileE (spec_TableLines_l4 rows sides (colsW rows n rows.length)) (([] : List (List UInt8)), 0) = some (linesT rows sides n rows.length) := by
  obtain ⟨h60, hn8, hlen, hw, hcell⟩ := cell_facts h hc hn
  have e1 := while_up (step := spec_TableLines_l4 rows sides (colsW rows n rows.length)) (fun i => linesT rows sides n i) rows.length (r := linesT rows sides n rows.length) (fun i hi => by
    have hn8 := hn8 (by omega)
    simp only [spec_TableLines_l4, Int.ofNat_lt, hi, decide_true, if_true, wrap_nat1 (show i < 9223372036854775807 by omega)]
    have e2 := while_up (step := spec_TableLines_l5 rows sides (colsW rows n rows.length) (linesT rows sides n i) (i : Int)) (fun k => Lib.join (wordsT rows sides i k) [32]) n (r := lineT rows sides n i) (fun k hk => by
      obtain ⟨c1, c2⟩ := hcell i hi k hk
      have hwk := hw k hk
      have hlk := wordsT_le (sides := sides) hi hw (show k ≤ n by omega)
      have hsub : IntKind.i64.wrap (wT rows k rows.length - (((rows.getD i default).getD k default).length : Int)) = wT rows k rows.length - (((rows.getD i default).getD k default).length : Int) := by
        have := wT_0 rows k rows.length
        exact wrap_i64 (by omega) (by omega)
      simp only [spec_TableLines_l5, ixOk_nat, hi, decide_true, ck_true, Int.toNat_natCast, hlen i hi, Int.ofNat_lt, hk, if_true, wrap_nat1 (show k < 9223372036854775807 by omega), colsW, List.length_map, List.length_range, tabr_getD _ n k _ hk, hs, hsub, Blanks_is (show wT rows k rows.length - (((rows.getD i default).getD k default).length : Int) ≤ 100000 by omega), Option.bind_some]
      rw [show wordsT rows sides i (k + 1) = wordsT rows sides i k ++ [cellT rows sides i k] from tabr_snoc _ k]
      have hb : (List.replicate (wT rows k rows.length - (((rows.getD i default).getD k default).length : Int)).toNat (32 : UInt8)).length ≤ 80 := by
        have := wT_0 rows k rows.length
        simp; omega
      have hcl := cellT_len (sides := sides) (k := k) hi
      unfold cellT padBlanks at hcl
      by_cases hk0 : 0 < k
      · have hne : wordsT rows sides i k ≠ [] := by
          intro e
          have : (wordsT rows sides i k).length = 0 := by rw [e]; rfl
          simp [wordsT] at this
          omega
        rw [join_snoc _ _ hne]
        have hk0' : decide ((0 : Int) < (k : Int)) = true := decide_eq_true (by omega)
        rw [hk0', if_pos rfl, catOk_of (by simp; omega), ck_true]
        unfold cellT padBlanks
        generalize (((sides.getD k 0).toNat : Int) == 114) = q at hcl ⊢
        cases q
        · simp only [Bool.false_eq_true, if_false] at hcl ⊢
          rw [catOk_of (by omega), ck_true, catOk_of (by simp only [List.length_append, List.length_cons, List.length_nil]; omega), ck_true]
        · simp only [if_true] at hcl ⊢
          rw [catOk_of (by omega), ck_true, catOk_of (by simp only [List.length_append, List.length_cons, List.length_nil]; omega), ck_true]
      · obtain rfl : k = 0 := by omega
        have e0 : wordsT rows sides i 0 = [] := rfl
        rw [e0, List.nil_append, Lib.join_nil, Lib.join_one]
        have hk0' : decide ((0 : Int) < ((0 : Nat) : Int)) = false := rfl
        rw [hk0', if_neg Bool.false_ne_true]
        unfold cellT padBlanks
        generalize (((sides.getD 0 0).toNat : Int) == 114) = q at hcl ⊢
        cases q
        · simp only [Bool.false_eq_true, if_false, List.nil_append] at hcl ⊢
          rw [catOk_of (by omega), ck_true, catOk_of (by simp only [List.length_append, List.length_nil]; omega), ck_true]
        · simp only [if_true, List.nil_append] at hcl ⊢
          rw [catOk_of (by omega), ck_true, catOk_of (by simp only [List.length_append, List.length_nil]; omega), ck_true]) (by
      simp only [spec_TableLines_l5, ixOk_nat, hi, decide_true, ck_true, Int.toNat_natCast, hlen i hi, Int.lt_irrefl, decide_false, Bool.false_eq_true, if_false]
      rfl)
    have e2' : whileE (spec_TableLines_l5 rows sides (colsW rows n rows.length) (linesT rows sides n i) (i : Int)) (([] : List UInt8), 0) = some (lineT rows sides n i) := e2
    rw [e2', Option.bind_some]
    have hli : (linesT rows sides n i).length = i := by simp [linesT]
    rw [appOk_of (by rw [hli]; simp; omega), ck_true, show linesT rows sides n (i + 1) = linesT rows sides n i ++ [lineT rows sides n i] from tabr_snoc _ i]) (by simp [spec_TableLines_l4])
  exact e1

theorem TableLines_impl (h : SmallT rows) (hs : sides.length ≤ 1000000) : impl_TableLines rows sides = some (tableT rows sides) := by
  unfold impl_TableLines tableT
  rw [ColumnWidths_impl h, Option.bind_some]
  by_cases hc : codeT rows = 0
  · rw [if_pos hc, if_pos hc]
    generalize hn : (rows.getD 0 default).length = n
    have hcl : (colsW rows n rows.length).length = n := by simp [colsW]
    simp only [beq_self_eq_true, Bool.not_true, Bool.false_eq_true, if_false, hcl, Trim_is hs, Option.isSome_some, Option.getD_some, Bool.or_true, ck_true, trim_nil]
    by_cases hq : sides.length = n ∧ lrB sides = true
    · have e : (!((sides.length : Int) == (n : Int))) = false := by simp [hq.1]
      rw [if_pos hq, e, hq.2]
      simp only [Bool.not_true, Bool.or_self, Bool.false_eq_true, if_false]
      rw [lines_impl h hc hn hq.1]; rfl
    · have e : ((!((sides.length : Int) == (n : Int))) || (!(lrB sides))) = true := by
        by_cases hl : sides.length = n
        · cases hb : lrB sides
          · simp
          · exact absurd ⟨hl, hb⟩ hq
        · have : (!((sides.length : Int) == (n : Int))) = true := by simp; omega
          rw [this]; rfl
      rw [if_neg hq, e, if_pos rfl]
  · rw [if_neg hc, if_neg hc]
    have : (!(codeT rows == 0)) = true := by simpa using hc
    simp only [this, if_true]

theorem TableLines_spec (h : SmallT rows) (hs : sides.length ≤ 1000000) : spec_TableLines rows sides = some (tableT rows sides) := by
  unfold spec_TableLines tableT
  rw [l24Rows_is h, Option.bind_some]
  by_cases hc : codeT rows = 0
  · rw [if_pos hc, hc]
    have hlr := lr_loop (rows := rows) hs sides.length 0 (by omega) (fun j hj => absurd hj (by omega))
    have hlr' : whileE (spec_TableLines_l1 rows sides) (0, 0) = _ := hlr
    rw [hlr', Option.bind_some]
    generalize hn : (rows.getD 0 default).length = n
    have hcl : (colsW rows n rows.length).length = n := by simp [colsW]
    have hwd := Widths_spec h hc
    rw [hn] at hwd
    by_cases hq : sides.length = n ∧ lrB sides = true
    · have e : (!((sides.length : Int) == (n : Int))) = false := by simp [hq.1]
      rw [if_pos hq, hq.2, if_pos rfl]
      simp only [beq_self_eq_true, if_true, hwd, Option.bind_some, hcl, e, Bool.false_eq_true, if_false, Bool.not_true]
      rw [lines_spec h hc hn hq.1]; rfl
    · rw [if_neg hq]
      cases hb : lrB sides with
      | false =>
        rw [if_neg Bool.false_ne_true]
        have e2 : ((2 : Int) == 0) = false := rfl
        simp only [e2, Bool.false_eq_true, if_false, Bool.not_false, if_true]
      | true =>
        have hl : ¬ sides.length = n := fun c => hq ⟨c, hb⟩
        have e : (!((sides.length : Int) == (n : Int))) = true := by simp; omega
        have e2 : ((2 : Int) == 0) = false := rfl
        simp only [beq_self_eq_true, if_true, hwd, Option.bind_some, hcl, e, e2, Bool.not_false]
        rfl
  · rw [if_neg hc]
    have hd : spec_TableLines_l1 rows sides (codeT rows, 0) = some (.inr (codeT rows)) := by
      have : (codeT rows == 0) = false := by simpa using hc
      simp [spec_TableLines_l1, this]
    rw [whileE_done hd, Option.bind_some]
    have : (codeT rows == 0) = false := by simpa using hc
    rw [this]
    rfl
end

end Go.Proofs.YtambhaccpbhnhaaGreatDoor
