/- The library's Trim at this translation. No condition. -/
import Derived.Test.YtambhaccpbhnhaaGreatDoorEngSTL
import Derived.Test.YtambhaccpbhnhaaGreatDoorEngSM
import Derived.Shelf.Strings.SlTrimAscii
namespace Go.Proofs.YtambhaccpbhnhaaGreatDoor
open Go Go.RowKit
set_option linter.unusedVariables false
set_option linter.unusedSimpArgs false
set_option maxRecDepth 100000

theorem same_belowT {w w' : World} (h : Below w.heap.size w w') : Same (fun _ => False) w w' := ⟨h.os, h.tape, h.output, h.size, fun b hb _ => h.block b hb⟩

theorem hTrim_is : Sound Tryz.prog 31 c_hTrim := by
  refine ⟨fun _ => rfl, fun F g0 w args vargs hsh hsz hfr hok => ⟨fun _ => ?_, ?_⟩⟩
  · obtain ⟨s, p, _, _, _, rfl⟩ := hTrimF_inv hok; rfl
  · obtain ⟨s, p, hs, hp, ha, rfl⟩ := hTrimF_inv hok
    have h0 := arg_VR hfr (i := 0) (by simp)
    have h1 := arg_VR hfr (i := 1) (by simp)
    rw [vargs_two hsz]
    generalize vargs.getD 0 undef = x at h0
    generalize vargs.getD 1 undef = y at h1
    have h0 : VR _ w x (.str s) := h0
    have h1 : VR _ w y (.str p) := h1
    cases h0; cases h1
    have he := Go.Proofs.enters_of (P := Tryz.prog) Tryz.func31 (by kernel_rfl) rfl
    unfold Invokes
    rw [he]
    have hd : ∀ l : List UInt8, (⟨l.toArray⟩ : ByteArray).data.toList = l := fun l => by simp
    have hz : ∀ l : List UInt8, (⟨l.toArray⟩ : ByteArray).size = l.length := fun l => by simp [ByteArray.size]
    have hc := Any.strings_Trim_laid Tryz.lays160 (by kernel_rfl) ⟨s.toArray⟩ ⟨p.toArray⟩ w (by rw [hz]; exact hs) (by rw [hz]; exact hp) (by rw [hd]; exact ascii_of_all ha)
    rw [hd, hd] at hc
    refine hc.mono fun e w' ⟨h2, h3⟩ => ?_
    exact ⟨_, g0, [], id, h2, back_val (same_belowT h3) .str (fun i hi => absurd hi.2 Bool.false_ne_true) (bor2 rfl)⟩

end Go.Proofs.YtambhaccpbhnhaaGreatDoor
