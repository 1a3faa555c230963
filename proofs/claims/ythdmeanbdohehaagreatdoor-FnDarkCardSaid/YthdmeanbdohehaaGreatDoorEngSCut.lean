/- The library's cutting and splitting of texts at this translation. No condition. -/
import Derived.Test.YthdmeanbdohehaaGreatDoorEngSN
import Derived.Test.YthdmeanbdohehaaGreatDoorEngSI
import Derived.Shelf.Strings.Cut
import Derived.Shelf.Strings.Split
import Derived.Lib.SplitLaws
namespace Go.Proofs.YthdmeanbdohehaaGreatDoor
open Go Go.RowKit
set_option linter.unusedVariables false
set_option linter.unusedSimpArgs false
set_option maxRecDepth 100000
theorem cl {w : World} (h : GT (fun _ => False) w) : ∃ m, w.cell? ⟨0, 0, none⟩ = some (.int .i64 m) := by
 obtain ⟨_, cs, T, fz, hh, m, hm⟩ := h (0, fun cs => ∃ m, cs = #[.int .i64 m]) (by
  unfold Xr
  repeat (first | exact List.mem_cons_self | apply List.mem_cons_of_mem))
 refine ⟨m, ?_⟩
 have hm' : cs = #[.int .i64 m] := hm
 subst hm'
 simp only [World.cell?, hh]
 rfl
theorem nT : Ad Tryz.prog 45 JG := by
 refine aG fun s p w hl hg => ?_
 obtain ⟨m, hm⟩ := cl hg
 have he := Go.Proofs.enters_of (P := Tryz.prog) Tryz.func45 (by kernel_rfl) rfl
 have hc := Any.strings_Cut Tryz.lays145 ⟨s.toArray⟩ ⟨p.toArray⟩ m w hl hm
 unfold DM
 rw [he]
 refine hc.mono fun e w' ⟨h1, n, h2⟩ => ⟨h1, ?_⟩
 subst h2
 exact ⟨rfl, rfl, rfl, Nat.le_refl _, fun _ _ _ => rfl⟩
theorem pR (s p : List UInt8) : (Lib.splitB ⟨p.toArray⟩ 0 (Lib.count s p) ⟨s.toArray⟩).map Value.string = (Lib.split s p).map fun l => Value.string ⟨l.toArray⟩ := by
 have h := Lib.splitB_data ⟨p.toArray⟩ 0 (Lib.count s p) ⟨s.toArray⟩
 have h' : (Lib.splitB ⟨p.toArray⟩ 0 (Lib.count s p) ⟨s.toArray⟩).map (·.data.toList) = Lib.split s p := h
 rw [← h', List.map_map]
 refine List.map_congr_left fun b _ => ?_
 rfl
end Go.Proofs.YthdmeanbdohehaaGreatDoor
