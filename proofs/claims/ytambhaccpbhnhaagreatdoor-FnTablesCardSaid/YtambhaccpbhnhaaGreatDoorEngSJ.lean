/- The library's strings.Join at this translation. No condition. -/
import Derived.Test.YtambhaccpbhnhaaGreatDoorEngSJL
import Derived.Test.YtambhaccpbhnhaaGreatDoorEngSI
import Derived.Shelf.Strings.OnBuilder
namespace Go.Proofs.YtambhaccpbhnhaaGreatDoor
open Go Go.RowKit
set_option linter.unusedVariables false
set_option linter.unusedSimpArgs false
set_option maxRecDepth 100000

theorem extra156 : Builder.Extra Tryz.prog Tryz.lays156_ren where
  sizeBuilder := by kernel_rfl
  liesBuilder := by kernel_rfl
  t5 := Tryz.underlying5
  a5 := Tryz.isAgg5
  z5 := Tryz.sizeOf5
  v5 := Tryz.zeroValue5
  infoByte := by kernel_rfl
  cellsByte := by kernel_rfl
  sizeByte := by kernel_rfl
  neB5 := by decide

theorem hJoinF_inv {args : List AV} (h : (hJoinF args).ok = true) : ∃ sz l p, l.length ≤ 1048576 ∧ (Lib.join l p).length ≤ 140737488355328 ∧ args = [.sl sz (List.map AV.str l), .str p] ∧ (hJoinF args).r = .str (Lib.join l p) := by
  unfold hJoinF at h
  split at h
  · rename_i sz els p
    split at h
    · rename_i l hl
      have h := Bool.and_eq_true_iff.1 h
      refine ⟨sz, l, p, of_decide_eq_true h.1, of_decide_eq_true h.2, by rw [strsOf_eq hl], ?_⟩
      simp only [hJoinF, hl]
    · cases h
  · cases h

theorem toList_of (l : List UInt8) : (⟨l.toArray⟩ : ByteArray).data.toList = l := by simp

theorem hJoin_is : Sound Tryz.prog 32 c_hJoin := by
  refine ⟨fun _ => rfl, fun F g0 w args vargs hsh hsz hfr hok => ⟨fun _ => ?_, ?_⟩⟩
  · obtain ⟨sz, l, p, _, _, rfl, hr⟩ := hJoinF_inv hok
    show flatA (hJoinF _).r = true
    rw [hr]; rfl
  · obtain ⟨sz, l, p, hl, hlen, rfl, hr⟩ := hJoinF_inv hok
    have h0 := arg_VR hfr (i := 0) (by simp)
    have h1 := arg_VR hfr (i := 1) (by simp)
    rw [vargs_two hsz]
    generalize vargs.getD 0 undef = x at h0
    generalize vargs.getD 1 undef = y at h1
    have h0 : VR _ w x (.sl sz (List.map AV.str l)) := h0
    have h1 : VR _ w y (.str p) := h1
    cases h1
    have done : ∀ e w', e = .returned (.string ⟨(Lib.join l p).toArray⟩) → Same (fun _ => False) w w' → ∃ v g ob κ, e = Ending.returned v ∧ Back F g0 [.sl sz (List.map AV.str l), .str p] c_hJoin.modes w v w' (c_hJoin.F [.sl sz (List.map AV.str l), .str p]).r (c_hJoin.F [.sl sz (List.map AV.str l), .str p]).outs g ob κ := by
      intro e w' he hs
      refine ⟨_, g0, [], id, he, ?_⟩
      have hr' : (c_hJoin.F [.sl sz (List.map AV.str l), .str p]).r = .str (Lib.join l p) := hr
      rw [hr']
      exact back_val hs .str (fun i hi => absurd hi.2 Bool.false_ne_true) (bor2 rfl)
    cases h0 with
    | @sl a n cap _ _ b off rd hn hcap hsz1 ha hc hw hv =>
      have hn' : n = l.length := by simpa using hn
      subst hn'
      have he := Go.Proofs.enters_of (P := Tryz.prog) Tryz.func32 (by kernel_rfl) rfl
      unfold Invokes
      rw [he]
      cases l with
      | nil =>
        refine (Any.strings_Join_none Tryz.lays156 extra156 a cap ⟨p.toArray⟩ w).mono fun e w' ⟨h2, h3⟩ => ?_
        subst h3
        exact done e w' h2 (Same.refl _ _)
      | cons s r =>
        obtain ⟨rfl, hs⟩ := ha (by simp)
        have one : ∀ i, i < (s :: r).length → (List.map AV.str (s :: r)).getD i .any = .str ((s :: r).getD i []) := fun i hi => by
          rw [List.getD_eq_getElem?_getD, List.getElem?_map, List.getD_eq_getElem?_getD, List.getElem?_eq_getElem hi]; rfl
        have hsz2 : sz = 1 := by
          have := (hc 0 (by simp)).1
          rw [one 0 (by simp)] at this
          exact this.symm
        subst hsz2
        have cell : ∀ i, i < (s :: r).length → w.cell? ⟨b, off + i, none⟩ = some (.string ⟨((s :: r).getD i []).toArray⟩) := fun i hi => by
          have h2 := hw i 0 (by simpa using hi) (by omega)
          have h3 := hv i 0 (by simpa using hi) (by omega)
          rw [one i hi] at h3
          rw [Nat.mul_one, Nat.add_zero] at h2
          have h3 : VR _ w (rd i 0) (.str ((s :: r).getD i [])) := h3
          generalize rd i 0 = u at h2 h3
          cases h3
          exact h2
        have hb : b < w.heap.size := World.block_lt_of_cell? w _ (cell 0 (by simp))
        have hd : ((s :: r).map fun l => (⟨l.toArray⟩ : ByteArray)).map (·.data.toList) = s :: r := by
          rw [List.map_map]
          have : ((fun x : ByteArray => x.data.toList) ∘ fun l : List UInt8 => (⟨l.toArray⟩ : ByteArray)) = id := by funext l; simp
          rw [this, List.map_id]
        have hc2 := Any.strings_Join Tryz.lays156 extra156 b off cap ((s :: r).map fun l => (⟨l.toArray⟩ : ByteArray)) ⟨p.toArray⟩ w (fun j x hx => by
          rw [List.getElem?_map] at hx
          cases hj : (s :: r)[j]? with
          | none => rw [hj] at hx; cases hx
          | some t =>
            rw [hj] at hx
            cases hx
            have hjl : j < (s :: r).length := by
              rcases Nat.lt_or_ge j (s :: r).length with h' | h'
              · exact h'
              · rw [List.getElem?_eq_none h'] at hj; cases hj
            rw [cell j hjl, List.getD_eq_getElem?_getD, hj]; rfl) hb (by rw [List.length_map]; omega) (by rw [List.length_map]; exact hcap) (by rw [hd]; simpa using hlen)
        rw [hd, List.length_map] at hc2
        refine hc2.mono fun e w' ⟨h2, h3⟩ => done e w' ?_ ⟨h3.os, h3.tape, h3.output, h3.size, fun b hb _ => h3.block b hb⟩
        rw [h2]

end Go.Proofs.YtambhaccpbhnhaaGreatDoor
