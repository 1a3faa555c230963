/- The library's Min and Max at ints, at this translation. No condition. -/
import Derived.Test.YtbobhejdijcofaaGreatDoorEngSML
import Derived.Test.YtbobhejdijcofaaGreatDoorEngSM
import Derived.Shelf.SlicesG.Turned
namespace Go.Proofs.YtbobhejdijcofaaGreatDoor
open Go Go.RowKit
set_option linter.unusedVariables false
set_option linter.unusedSimpArgs false
set_option maxRecDepth 100000

theorem mm_sound {f : FuncId} {c : Ctr} {op : List Int → Int} (hF : c.F = mmF op) (hm : c.modes = [.bor]) (he : ∀ args w, (callFunc f args).run Tryz.prog w = .ok (.enter f args) w)
    (hc : ∀ (b off n k : Nat) (zs : List Int) (w : World), 0 < n → n ≤ zs.length → n ≤ 9223372036854775807 → (∀ j, j < zs.length → w.cell? ⟨b, off + j, none⟩ = some (.int .i64 (zs.getD j 0))) →
      Calls Tryz.prog f #[.slice (some ⟨b, off, none⟩) n k] w fun e w' => e = .returned (.int .i64 (op (zs.take n))) ∧ w' = w) : Sound Tryz.prog f c := by
  refine ⟨fun _ => by rw [hm]; rfl, fun F g0 w args vargs hsh hsz hfr hok => ⟨fun _ => ?_, ?_⟩⟩
  · rw [hF] at hok ⊢
    obtain ⟨sz, l, _, _, rfl, hr⟩ := mmF_inv hok
    rw [hr]; rfl
  · rw [hF] at hok ⊢
    obtain ⟨sz, l, hp, hl, rfl, hr⟩ := mmF_inv hok
    rw [hr]
    have h0 := arg_VR hfr (i := 0) (by simp)
    rw [vargs_one hsz]
    generalize vargs.getD 0 undef = x at h0
    have h0 : VR _ w x (.sl sz (List.map (AV.int .i64) l)) := h0
    cases h0 with
    | @sl a n cap _ _ b off rd hn hcap hsz1 ha hcc hw hv =>
      have hn' : n = l.length := by simpa using hn
      subst hn'
      obtain ⟨rfl, hs⟩ := ha (by simpa using hp)
      have one : ∀ i, i < l.length → (List.map (AV.int .i64) l).getD i .any = .int .i64 (l.getD i 0) := fun i hi => by
        rw [List.getD_eq_getElem?_getD, List.getElem?_map, List.getD_eq_getElem?_getD, List.getElem?_eq_getElem hi]; rfl
      have hsz2 : sz = 1 := by
        have := (hcc 0 (by simpa using hp)).1
        rw [one 0 hp] at this
        exact this.symm
      subst hsz2
      unfold Invokes
      rw [he]
      have h1 := hc b off l.length cap l w hp (Nat.le_refl _) hl (fun i hi => by
        have h2 := hw i 0 (by simpa using hi) (by omega)
        have h3 := hv i 0 (by simpa using hi) (by omega)
        rw [one i hi] at h3
        rw [Nat.mul_one, Nat.add_zero] at h2
        have h3 : VR _ w (rd i 0) (.int .i64 (l.getD i 0)) := h3
        generalize rd i 0 = u at h2 h3
        cases h3
        exact h2)
      rw [List.take_length] at h1
      refine h1.mono fun e w' ⟨h2, h3⟩ => ?_
      subst h3
      exact ⟨_, g0, [], id, h2, back_val (Same.refl _ _) .int (fun i hi => absurd hi.2 Bool.false_ne_true) (bor1 hm)⟩

theorem hMaxI_is : Sound Tryz.prog 72 c_hMaxI :=
  mm_sound (op := Lib.maxOf) rfl rfl (Go.Proofs.enters_of (P := Tryz.prog) Tryz.func72 (by kernel_rfl) rfl) fun b off n k zs w => AnyG.slices_Max_int Tryz.lMaxI b off n k zs w

theorem hMinI_is : Sound Tryz.prog 71 c_hMinI :=
  mm_sound (op := Lib.minOf) rfl rfl (Go.Proofs.enters_of (P := Tryz.prog) Tryz.func71 (by kernel_rfl) rfl) fun b off n k zs w => AnyG.slices_Min_int Tryz.lMinI b off n k zs w

end Go.Proofs.YtbobhejdijcofaaGreatDoor
