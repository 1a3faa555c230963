/- The library's cutting and splitting of texts at this translation. No condition. -/
import Derived.Test.YtambhaccpbhnhaaGreatDoorEngSN
import Derived.Test.YtambhaccpbhnhaaGreatDoorEngSI
import Derived.Shelf.Strings.Split
import Derived.Lib.SplitLaws
namespace Go.Proofs.YtambhaccpbhnhaaGreatDoor
open Go Go.RowKit
set_option linter.unusedVariables false
set_option linter.unusedSimpArgs false
set_option maxRecDepth 100000

theorem maxlen_of {w : World} (h : GT (fun _ => False) w) : ∃ m, w.cell? ⟨2, 0, none⟩ = some (.int .i64 m) := by
  obtain ⟨_, cs, T, fz, hh, m, hm⟩ := h (2, fun cs => ∃ m, cs = #[.int .i64 m]) (by
    unfold tabs
    repeat (first | exact List.mem_cons_self | apply List.mem_cons_of_mem))
  refine ⟨m, ?_⟩
  have hm' : cs = #[.int .i64 m] := hm
  subst hm'
  simp only [World.cell?, hh]
  rfl


theorem split_vals (s p : List UInt8) : (Lib.splitB ⟨p.toArray⟩ 0 (Lib.count s p) ⟨s.toArray⟩).map Value.string = (Lib.split s p).map fun l => Value.string ⟨l.toArray⟩ := by
  have h := Lib.splitB_data ⟨p.toArray⟩ 0 (Lib.count s p) ⟨s.toArray⟩
  have h' : (Lib.splitB ⟨p.toArray⟩ 0 (Lib.count s p) ⟨s.toArray⟩).map (·.data.toList) = Lib.split s p := h
  rw [← h', List.map_map]
  refine List.map_congr_left fun b _ => ?_
  rfl

theorem hSplit_is : Sound Tryz.prog 67 c_hSplit := by
  refine hSplit_sound (T := 9) fun s p w hl hp hg => ?_
  obtain ⟨m, hm⟩ := maxlen_of hg
  have he := Go.Proofs.enters_of (P := Tryz.prog) Tryz.func67 (by kernel_rfl) rfl
  have hc := Any.strings_Split Tryz.lays146 (by kernel_rfl) ⟨s.toArray⟩ ⟨p.toArray⟩ m w hl hm hp
  unfold Invokes
  rw [he]
  have hlen : Lib.count s p + 1 = (Lib.split s p).length := by
    have := Lib.splitB_all ⟨p.toArray⟩ hp 0 (Lib.count s p) ⟨s.toArray⟩ rfl
    rw [← this, ← List.length_map (f := Value.string), split_vals, List.length_map]
  refine hc.mono fun e w' ⟨h1, h2⟩ => ⟨?_, ?_⟩
  · rw [h1]; show Ending.returned (.slice _ (Lib.count s p + 1) (Lib.count s p + 1)) = _; rw [hlen]
  · rw [h2, ← split_vals]; rfl

end Go.Proofs.YtambhaccpbhnhaaGreatDoor
