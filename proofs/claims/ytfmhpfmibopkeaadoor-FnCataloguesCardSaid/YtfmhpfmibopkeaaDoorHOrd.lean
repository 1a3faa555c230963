/- What typed forms say: stars in the order of their ranges. No condition. -/
import Derived.Test.YtfmhpfmibopkeaaDoorHStars
import Derived.Test.YtfmhpfmibopkeaaDoorHUtil
import Derived.Test.YtfmhpfmibopkeaaDoorHStabN
namespace Go.Proofs.YtfmhpfmibopkeaaDoor
open Go Go.RowKit Go.Proofs.YtfmhpfmibopkeaaDoor.stab
set_option linter.unusedSimpArgs false
set_option linter.unusedVariables false

theorem j_swp (d : List Int) (a b n : Int) (c : List Star) : slices_swapRangeCmpFunc_int64__impl_orderBy_c2 d a b n c = gSWP d a b n := rfl
theorem j_rot (d : List Int) (a m b : Int) (c : List Star) : slices_rotateCmpFunc_int64__impl_orderBy_c2 d a m b c = gROT d a m b := rfl
theorem j_ins (d : List Int) (a b : Int) (c : List Star) : slices_insertionSortCmpFunc_int64__impl_orderBy_c2 d a b c = gINS (fun x y => impl_orderBy_c2 x y c) d a b := rfl
theorem j_sym (c : List Star) : ∀ (k : Nat) (d : List Int) (a m b : Int), slices_symMergeCmpFunc_int64__impl_orderBy_c2_n k d a m b c = gSYM_n (fun x y => impl_orderBy_c2 x y c) k d a m b
  | 0, _, _, _, _ => rfl
  | k + 1, d, a, m, b => by
    have ih := j_sym c k
    unfold slices_symMergeCmpFunc_int64__impl_orderBy_c2_n gSYM_n
    simp only [ih]
    rfl
theorem j_sym' (d : List Int) (a m b : Int) (c : List Star) : slices_symMergeCmpFunc_int64__impl_orderBy_c2 d a m b c = gSYM (fun x y => impl_orderBy_c2 x y c) d a m b := j_sym c 64 d a m b
theorem j_l3 (c : List Star) (n bs : Int) : slices_stableCmpFunc_int64__impl_orderBy_c2_l3 n c bs = gSTB_l3 (fun x y => impl_orderBy_c2 x y c) n bs := by
  funext ⟨d, a, b⟩
  unfold slices_stableCmpFunc_int64__impl_orderBy_c2_l3 gSTB_l3
  simp only [j_sym']
theorem j_l2 (c : List Star) (n : Int) : slices_stableCmpFunc_int64__impl_orderBy_c2_l2 n c = gSTB_l2 (fun x y => impl_orderBy_c2 x y c) n := by
  funext ⟨d, b⟩
  unfold slices_stableCmpFunc_int64__impl_orderBy_c2_l2 gSTB_l2
  simp only [j_l3, j_sym']
theorem j_stab (d : List Int) (n : Int) (c : List Star) : slices_stableCmpFunc_int64__impl_orderBy_c2 d n c = gSTB (fun x y => impl_orderBy_c2 x y c) d n := by
  unfold slices_stableCmpFunc_int64__impl_orderBy_c2 gSTB
  simp only [j_l2]
  rfl

def ampS (l : List Star) (k : Nat) : Int := (l.getD k default).Bright - (l.getD k default).Faint

def ltA (l : List Star) {m : Nat} (x y : Fin m) : Bool := decide (ampS l x.val < ampS l y.val)
theorem ltA_O (l : List Star) (m : Nat) : StO (ltA l (m := m)) := by
  refine ⟨?_, ?_⟩ <;> (intros; simp only [ltA, decide_eq_true_eq, decide_eq_false_iff_not] at *; omega)

theorem number_is {l : List Star} (hg : ∀ i, i < l.length → oneS (l.getD i default) = true) {k : Nat} (hk : k < l.length) : impl_ByAmplitude_c1 (k : Int) l = some (ampS l k) := by
  obtain ⟨_, _, _, _, _, h1, h2, h3⟩ := oneS_in (hg k hk)
  unfold impl_ByAmplitude_c1 ampS
  rw [ixOk_nat, decide_eq_true hk, ck_true, Int.toNat_natCast, wrap_i64 (by omega) (by omega)]

theorem cmpA_ok {l : List Star} (hg : ∀ i, i < l.length → oneS (l.getD i default) = true) {m : Nat} (hm : l.length = m) : CmpOk (fun x y : Fin m => impl_orderBy_c2 (x.val : Int) (y.val : Int) l) (ltA l) := fun x y => by
  have hx := x.isLt
  have hy := y.isLt
  simp only [impl_orderBy_c2]
  rw [number_is hg (by omega), Option.bind_some, number_is hg (by omega), Option.bind_some]
  unfold ltA
  by_cases h : ampS l x.val < ampS l y.val
  · have e : (!(ampS l x.val == ampS l y.val)) = true := by simp; omega
    exact ⟨-1, by rw [if_pos e, if_pos (decide_eq_true h)], by simp [h]⟩
  · by_cases h2 : ampS l x.val = ampS l y.val
    · have e : (!(ampS l x.val == ampS l y.val)) = false := by simp [h2]
      exact ⟨0, by rw [e]; rfl, by simp [h]⟩
    · have e : (!(ampS l x.val == ampS l y.val)) = true := by simpa using h2
      exact ⟨1, by rw [if_pos e, if_neg (by simpa using h)], by simp [h]⟩

theorem indices_is {n : Nat} (hn : n ≤ 1000) : impl_indicesWhere__impl_orderBy_c1 (n : Int) = some ((List.range n).map fun i : Nat => (i : Int)) := by
  have := while_keep (step := impl_indicesWhere__impl_orderBy_c1_l1 (n : Int)) (fun _ => true) (fun i : Nat => (i : Int)) n (r := (List.range n).map fun i : Nat => (i : Int)) (fun out i hi ho => by
    simp only [impl_indicesWhere__impl_orderBy_c1_l1, impl_orderBy_c1, Int.ofNat_lt, hi, decide_true, if_true, Option.bind_some, wrap_nat1 (show i < 9223372036854775807 by omega)]
    rw [appOk_of (by simp; omega), ck_true]) (by
    have : (List.range n).filter (fun _ => true) = List.range n := List.filter_eq_self.2 (fun _ _ => rfl)
    simp [impl_indicesWhere__impl_orderBy_c1_l1, keptTo, this])
  unfold impl_indicesWhere__impl_orderBy_c1
  rw [this]; rfl

/-- The order: every place once, by falling range. -/
theorem order_is {l : List Star} (hg : ∀ i, i < l.length → oneS (l.getD i default) = true) (hl : l.length ≤ 60) : ∃ o : List Nat, impl_orderBy__impl_ByAmplitude_c1 (l.length : Int) l = some (o.map fun i : Nat => (i : Int)) ∧ o.length = l.length ∧ o.Nodup ∧ (∀ k ∈ o, k < l.length) ∧ o.Pairwise fun x y => ampS l x ≤ ampS l y := by
  unfold impl_orderBy__impl_ByAmplitude_c1 slices_SortStableFunc_int64_int64__impl_orderBy_c2
  rw [indices_is (by omega), Option.bind_some, j_stab]
  rcases Nat.eq_zero_or_pos l.length with h0 | h0
  · refine ⟨[], ?_, by simp [h0], List.nodup_nil, (fun k hk => by cases hk), List.Pairwise.nil⟩
    rw [h0]
    have e1 : ∀ cmp : Int → Int → Option Int, gSTB cmp ([] : List Int) 0 = some [] := fun cmp => by
      unfold gSTB gINS
      rw [whileE_done (r := ([], 0)) (by simp [gSTB_l1]), Option.bind_some]
      simp only
      rw [whileE_done (r := []) (by
        have : IntKind.i64.wrap (0 + 1) = 1 := wrap_i64 (by omega) (by omega)
        rw [this]; simp [gINS_l1])]
      simp only [Option.bind_some, beq_self_eq_true, ck_true]
      rw [whileE_done (r := []) (by simp [gSTB_l2])]
      simp only [Option.bind_some, beq_self_eq_true, ck_true]
    have e2 := e1 (fun x y => impl_orderBy_c2 x y l)
    simp only [List.range_zero, List.map_nil, List.length_nil]
    show ((gSTB (fun x y => impl_orderBy_c2 x y l) [] 0).bind _).bind _ = _
    rw [e2]
    rfl
  · obtain ⟨m, hm⟩ : ∃ m, l.length = m + 1 := ⟨l.length - 1, by omega⟩
    have hmap : ((List.range l.length).map fun i : Nat => (i : Int)) = (List.finRange (m + 1)).map fun i => (i.val : Int) := by
      rw [hm]
      apply List.ext_getElem
      · simp
      · intro i h1 h2; simp
    have hfl : (List.finRange (m + 1)).length = l.length := by simp [hm]
    obtain ⟨d, s1, s2, s3⟩ := stab_is (cmpA_ok hg hm) (ltA_O l (m + 1)) (d := List.finRange (m + 1)) (by rw [hfl]; omega)
    have hn := n_stb (fun i : Fin (m + 1) => (i.val : Int)) rfl (fun x y => impl_orderBy_c2 x y l) (List.finRange (m + 1)) ((List.finRange (m + 1)).length : Int)
    rw [s1] at hn
    have hdl : d.length = l.length := by rw [s3.len, hfl]
    rw [hmap, List.length_map, hn]
    refine ⟨d.map fun i => i.val, ?_, by simpa using hdl, ?_, ?_, ?_⟩
    · simp only [Option.map_some, Option.bind_some, List.length_map]
      have : (d.length == (List.finRange (m + 1)).length) = true := by simp [hdl, hm]
      rw [this, ck_true]
      simp
    · have hnd : d.Nodup := s3.perm.nodup_iff.2 (List.nodup_finRange _)
      exact List.Pairwise.map _ (fun a b h c => h (Fin.ext c)) hnd
    · intro k hk
      obtain ⟨i, _, rfl⟩ := List.mem_map.1 hk
      have := i.isLt; omega
    · refine List.Pairwise.map _ (fun a b h => ?_) s2
      simp only [ltA, decide_eq_false_iff_not] at h
      omega

end Go.Proofs.YtfmhpfmibopkeaaDoor
