/- The library's cutting and splitting of texts at this translation. No condition. -/
import Derived.Test.YtfaenphcgfocnaaGreatDoorEngSN
import Derived.Test.YtfaenphcgfocnaaGreatDoorEngSI
import Derived.Shelf.Strings.Cut
import Derived.Shelf.Strings.Split
import Derived.Lib.SplitLaws
namespace Go.Proofs.YtfaenphcgfocnaaGreatDoor
open Go Go.RowKit
set_option linter.unusedVariables false
set_option linter.unusedSimpArgs false
set_option maxRecDepth 100000
theorem kl {w:World} (h:GT (fun _ => False) w):∃ m,w.cell? ⟨0,0,none⟩ = some (.int .i64 m):=by
 obtain ⟨_,cs,T,fz,hh,m,hm⟩:=h (0,fun cs => ∃ m,cs = #[.int .i64 m]) (by
  unfold dJ
  repeat (first | exact List.mem_cons_self | apply List.mem_cons_of_mem))
 refine ⟨m,?_⟩
 have hm':cs = #[.int .i64 m]:=hm
 subst hm'
 simp only [World.cell?,hh]
 rfl
theorem yC:AU Tryz.prog 53 NF:=by
 refine iK fun s p w hl hg => ?_
 obtain ⟨m,hm⟩:=kl hg
 have he:=Go.Proofs.enters_of (P:=Tryz.prog) Tryz.func53 (by kernel_rfl) rfl
 have hc:=Any.strings_Cut Tryz.lays145 ⟨s.toArray⟩ ⟨p.toArray⟩ m w hl hm
 unfold DX
 rw [he]
 refine hc.mono fun e w' ⟨h1,n,h2⟩ => ⟨h1,?_⟩
 subst h2
 exact ⟨rfl,rfl,rfl,Nat.le_refl _,fun _ _ _ => rfl⟩
end Go.Proofs.YtfaenphcgfocnaaGreatDoor
