/- The library's decimal numerals at this translation. No condition. -/
import Derived.Test.YtbobhejdijcofaaGreatDoorEngSL
import Derived.Test.YtbobhejdijcofaaGreatDoorEngSH
import Derived.Shelf.Strconv.Itoa3
import Derived.Lib.LaidTab
namespace Go.Proofs.YtbobhejdijcofaaGreatDoor
open Go Go.RowKit
set_option linter.unusedVariables false
set_option linter.unusedSimpArgs false
set_option maxRecDepth 100000

theorem drewN_all (w : World) : ∀ k : Nat, (w.drewN k).heap = w.heap ∧ (w.drewN k).os = w.os ∧ (w.drewN k).tape = w.tape ∧ (w.drewN k).output = w.output := fun k => ⟨rfl, rfl, rfl, rfl⟩

theorem same_grow (w : World) (k : Nat) (os : Array Obj) : Same (fun _ => False) w (Go.Sort.grow (w.drewN k) os) where
  os := rfl
  tape := rfl
  output := rfl
  size := by
    show w.heap.size ≤ (w.heap ++ os).size
    simp
  block := fun b hb _ => by
    show (w.heap ++ os)[b]? = w.heap[b]?
    rw [Array.getElem?_append_left hb]

theorem hFmt_is : Sound Tryz.prog 96 c_hFmt := by
  refine hFmt_sound fun n w h0 h1 hg => ?_
  have he := Go.Proofs.enters_of (P := Tryz.prog) Tryz.func96 (by kernel_rfl) rfl
  have hc := Any.internal_strconv_FormatInt_10 Tryz.laysM246 n h0 h1 w (by
    unfold Lib.TabIs World.var?
    rw [Tryz.laysM246.m17]
    unfold GT tabs at hg
    obtain ⟨_, cs, T, fz, hh, hcs⟩ := hg _ (List.mem_cons_self)
    simp only at hh hcs
    subst hcs
    show Option.bind (some 1) _ = _
    simp only [Option.bind_some, hh]
    rw [Lib.pow10Tab, List.map_map]
    rfl)
  unfold Invokes
  rw [he]
  refine hc.mono fun e w' ⟨h2, k, os, h3⟩ => ⟨h2, ?_⟩
  subst h3
  exact same_grow w k os

end Go.Proofs.YtbobhejdijcofaaGreatDoor
