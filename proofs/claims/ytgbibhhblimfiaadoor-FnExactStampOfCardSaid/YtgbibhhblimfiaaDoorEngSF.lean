/- The library's decimal numerals at this translation. No condition. -/
import Derived.Test.YtgbibhhblimfiaaDoorEngSL
import Derived.Test.YtgbibhhblimfiaaDoorEngSH
import Derived.Shelf.Strconv.Itoa3
import Derived.Lib.LaidTab
namespace Go.Proofs.YtgbibhhblimfiaaDoor
open Go Go.RowKit
set_option linter.unusedVariables false
set_option linter.unusedSimpArgs false

theorem drewN_all (w : World) : ∀ k : Nat, (w.drewN k).heap = w.heap ∧ (w.drewN k).os = w.os ∧ (w.drewN k).tape = w.tape ∧ (w.drewN k).output = w.output := fun k => ⟨rfl, rfl, rfl, rfl⟩

theorem same_grow (w : World) (k : Nat) (os : Array Obj) : Same (fun _ => False) w (Go.Sort.grow (w.drewN k) os) where
  os := rfl
  tape := rfl
  output := rfl
  size := by
    show w.heap.size ≤ (w.heap ++ os).size
    simp
  block := fun b hb _ => by
    show (w.heap ++ os)[b]? = w.heap[b]?
    rw [Array.getElem?_append_left hb]

theorem hFmt_is : Sound Tryd.prog 33 c_hFmt := by
  refine hFmt_sound fun n w h0 h1 hg => ?_
  have he := Go.Proofs.enters_of (P := Tryd.prog) Tryd.func33 (by kernel_rfl) rfl
  have hc := Any.internal_strconv_FormatInt_10 Tryd.laysM246 n h0 h1 w (by
    unfold Lib.TabIs World.var?
    rw [Tryd.laysM246.m17]
    unfold GT tabs at hg
    obtain ⟨_, cs, T, fz, hh, hcs⟩ := hg _ (List.mem_cons_self)
    simp only at hh hcs
    subst hcs
    show Option.bind (some 0) _ = _
    simp only [Option.bind_some, hh]
    rw [Lib.pow10Tab, List.map_map]
    rfl)
  unfold Invokes
  rw [he]
  refine hc.mono fun e w' ⟨h2, k, os, h3⟩ => ⟨h2, ?_⟩
  subst h3
  exact same_grow w k os

/-- What the statement's rows list holds for the code. -/
theorem tabs_met {W : World} (h : Lib.TabIs Tryd.prog W (Tryd.prog.globals.getD 0 default).name .u64 Lib.pow10Tab) : GT (fun _ => False) W := by
  intro q hq
  unfold tabs at hq
  rcases List.mem_cons.1 hq with rfl | hq
  · unfold Lib.TabIs World.var? at h
    rw [show Tryd.prog.globalNamed (Tryd.prog.globals.getD 0 default).name = some 0 by kernel_rfl] at h
    simp only [Option.bind_some] at h
    split at h
    · rename_i cs T fz hh
      refine ⟨id, cs, T, fz, hh, ?_⟩
      simp only [Option.some.injEq] at h
      show cs = _
      rw [h, Lib.pow10Tab, List.map_map]
      rfl
    · cases h
  · cases hq

end Go.Proofs.YtgbibhhblimfiaaDoor
