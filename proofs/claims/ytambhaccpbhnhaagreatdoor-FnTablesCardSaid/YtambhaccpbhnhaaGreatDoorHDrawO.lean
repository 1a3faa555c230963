/- What typed forms say: one of the drawn. No condition. -/
import Derived.Test.YtambhaccpbhnhaaGreatDoorHDraw
namespace Go.Proofs.YtambhaccpbhnhaaGreatDoor
open Go Go.RowKit
set_option linter.unusedSimpArgs false
set_option linter.unusedVariables false

theorem one_is {m : Nat} {s : L00Src} (h : SrcN (m + 2) s) {n : Int} (hn : n ≤ 9223372036854775807) : ∃ v s', spec_l00Src_one s n = some (v, s') ∧ SrcN m s' := by
  obtain ⟨v, s', e, _, _, _, h'⟩ := pick_is h hn
  exact ⟨v == 0, s', by unfold spec_l00Src_one; rw [e]; rfl, h'⟩

end Go.Proofs.YtambhaccpbhnhaaGreatDoor
