/- Plain lemmas: the library's stable sort at windows. No condition. -/
import Derived.Test.YtikaacjlnkfebaaCVT
import Derived.Test.YtikaacjlnkfebaaHStab
namespace Go.Proofs.Ytikaacjlnkfebaa
open Go Go.RowKit Go.Proofs.Ytikaacjlnkfebaa.stab
set_option linter.unusedSimpArgs false
set_option linter.unusedVariables false

theorem i_swp : slices_swapRangeCmpFunc_impl_Window__impl_longest_c1 = gSWP := rfl
theorem i_rot : slices_rotateCmpFunc_impl_Window__impl_longest_c1 = gROT := rfl
theorem i_ins : slices_insertionSortCmpFunc_impl_Window__impl_longest_c1 = gINS impl_longest_c1 := rfl
theorem i_sym : ∀ (k : Nat) (d : List Window) (a m b : Int), slices_symMergeCmpFunc_impl_Window__impl_longest_c1_n k d a m b = gSYM_n impl_longest_c1 k d a m b
  | 0, _, _, _, _ => rfl
  | k + 1, d, a, m, b => by
    have ih := i_sym k
    unfold slices_symMergeCmpFunc_impl_Window__impl_longest_c1_n gSYM_n
    simp only [ih]
    rfl
theorem i_sym' : slices_symMergeCmpFunc_impl_Window__impl_longest_c1 = gSYM impl_longest_c1 := by
  funext d a m b; exact i_sym 64 d a m b
theorem i_l3 (n bs : Int) : slices_stableCmpFunc_impl_Window__impl_longest_c1_l3 n bs = gSTB_l3 impl_longest_c1 n bs := by
  funext ⟨d, a, b⟩
  unfold slices_stableCmpFunc_impl_Window__impl_longest_c1_l3 gSTB_l3
  rw [i_sym']
theorem i_l2 (n : Int) : slices_stableCmpFunc_impl_Window__impl_longest_c1_l2 n = gSTB_l2 impl_longest_c1 n := by
  funext ⟨d, b⟩
  unfold slices_stableCmpFunc_impl_Window__impl_longest_c1_l2 gSTB_l2
  rw [i_sym']
  simp only [i_l3]
theorem i_stab (d : List Window) (n : Int) : slices_stableCmpFunc_impl_Window__impl_longest_c1 d n = gSTB impl_longest_c1 d n := by
  unfold slices_stableCmpFunc_impl_Window__impl_longest_c1 gSTB
  rw [i_l2]
  rfl

end Go.Proofs.Ytikaacjlnkfebaa
