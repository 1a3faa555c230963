/- The library's Repeat at this translation. No condition. -/
import Derived.Test.YtbobhejdijcofaaGreatDoorEngSRL
import Derived.Test.YtbobhejdijcofaaGreatDoorEngSM
import Derived.Shelf.Strings.Repeat
namespace Go.Proofs.YtbobhejdijcofaaGreatDoor
open Go Go.RowKit
set_option linter.unusedVariables false
set_option linter.unusedSimpArgs false
set_option maxRecDepth 100000

theorem same_below {w w' : World} (h : Below w.heap.size w w') : Same (fun _ => False) w w' := ⟨h.os, h.tape, h.output, h.size, fun b hb _ => h.block b hb⟩

theorem extra105 : Builder.Extra Tryz.prog Tryz.lays105_ren where
  sizeBuilder := by kernel_rfl
  liesBuilder := by kernel_rfl
  t5 := Tryz.underlying5
  a5 := Tryz.isAgg5
  z5 := Tryz.sizeOf5
  v5 := Tryz.zeroValue5
  infoByte := by kernel_rfl
  cellsByte := by kernel_rfl
  sizeByte := by kernel_rfl
  neB5 := by decide

theorem hRepeat_is : Sound Tryz.prog 32 c_hRepeat := by
  refine ⟨fun _ => rfl, fun F g0 w args vargs hsh hsz hfr hok => ⟨fun _ => ?_, ?_⟩⟩
  · obtain ⟨s, n, _, _, rfl, hr⟩ := hRepeatF_inv hok
    show flatA (hRepeatF _).r = true
    rw [hr]; rfl
  · obtain ⟨s, n, hn, hl, rfl, hr⟩ := hRepeatF_inv hok
    have h0 := arg_VR hfr (i := 0) (by simp)
    have h1 := arg_VR hfr (i := 1) (by simp)
    rw [vargs_two hsz]
    generalize vargs.getD 0 undef = x at h0
    generalize vargs.getD 1 undef = y at h1
    have h0 : VR _ w x (.str s) := h0
    have h1 : VR _ w y (.int .i64 (n : Int)) := h1
    cases h0; cases h1
    have he := Go.Proofs.enters_of (P := Tryz.prog) Tryz.func32 (by kernel_rfl) rfl
    unfold Invokes
    rw [he]
    have hd : (⟨s.toArray⟩ : ByteArray).data.toList = s := by simp
    have hz : (⟨s.toArray⟩ : ByteArray).size = s.length := by simp [ByteArray.size]
    have hc := Any.strings_Repeat Tryz.lays105 extra105 ⟨s.toArray⟩ n w hn (by rw [hz]; exact hl)
    rw [hd] at hc
    refine hc.mono fun e w' ⟨h2, h3⟩ => ?_
    refine ⟨_, g0, [], id, h2, ?_⟩
    have hr' : (c_hRepeat.F [.str s, .int .i64 (n : Int)]).r = .str (Lib.repeatL s n) := hr
    rw [hr']
    exact back_val (same_below h3) .str (fun i hi => absurd hi.2 Bool.false_ne_true) (bor2 rfl)

end Go.Proofs.YtbobhejdijcofaaGreatDoor
