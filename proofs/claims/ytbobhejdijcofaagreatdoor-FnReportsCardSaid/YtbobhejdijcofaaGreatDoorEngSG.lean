/- The library's sort of strings, and its list without equal neighbours, at this translation. No condition. -/
import Derived.Test.YtbobhejdijcofaaGreatDoorEngSK
import Derived.Test.YtbobhejdijcofaaGreatDoorEngSH
import Derived.Shelf.Sort.Plain
import Derived.Shelf.Slices.In.SortNone
import Derived.Shelf.Slices.CompactS
namespace Go.Proofs.YtbobhejdijcofaaGreatDoor
open Go Go.RowKit Go.Sort
set_option linter.unusedVariables false
set_option linter.unusedSimpArgs false

theorem holds_of {S : Nat → Prop} {w : World} {b cap : Nat} {ss : List (List UInt8)} (h : Home S w b cap 1 (List.map AV.str ss)) : Holds encStr w b 0 ss.toArray := by
  intro j hj
  have hj' : j < ss.length := by simpa using hj
  have hlen := h.len
  simp only [List.length_map] at hlen
  obtain ⟨arr, T, fz, hr, hf, hs, hv⟩ := h.row (by omega)
  have hlt : j < arr.size := by omega
  have hx := hv j 0 (by simpa using hj') (by omega)
  have e1 : (List.map AV.str ss).getD j .any = .str ss[j] := by
    rw [List.getD_eq_getElem?_getD, List.getElem?_map, List.getElem?_eq_getElem hj']; rfl
  rw [e1, Nat.mul_one, Nat.add_zero] at hx
  have e2 : (AV.str ss[j]).cells.getD 0 .any = .str ss[j] := rfl
  rw [e2] at hx
  generalize hg : arr.getD j undef = u at hx
  cases hx
  have e3 : ss.toArray[j]! = ss[j] := by
    rw [getElem!_pos ss.toArray j (by simpa using hj')]; simp
  refine ⟨?_, ?_⟩
  · simp only [World.cell?, hr, Nat.zero_add]
    rw [Array.getElem?_eq_getElem hlt]
    have : arr[j] = arr.getD j undef := by simp [Array.getD_eq_getD_getElem?, hlt]
    rw [this, hg, e3]
    rfl
  · simp only [World.frozen?, hr]
    rcases hf with e | ⟨_, e⟩
    · subst e; simp
    · simp; omega

theorem grow_none (w : World) : grow w #[] = w := by cases w; simp [grow]

theorem put_world {w : World} {b n : Nat} {D : Array (List UInt8)} {os : Array Obj} : Same (fun x => x = b) w (grow (putRow encStr (Go.Sort.ahead w n) b 0 D) os) where
  os := rfl
  tape := rfl
  output := rfl
  size := by
    show w.heap.size ≤ ((w.heap.modify b _) ++ os).size
    simp
  block := fun x hx hn => by
    show ((w.heap.modify b _) ++ os)[x]? = w.heap[x]?
    rw [Array.getElem?_append_left (by simpa using hx), Array.getElem?_modify, if_neg (fun e => hn e.symm)]

theorem put_home {S S' : Nat → Prop} {w : World} {b cap n : Nat} {els : List AV} {D : Array (List UInt8)} {os : Array Obj} (h : Home S w b cap 1 els) (hp : 0 < cap) {ss : List (List UInt8)} (h1 : ss.length ≤ D.size) (h2 : D.size ≤ cap)
    (h3 : ∀ i (hi : i < ss.length), D[i]! = ss[i]) : Home S' (grow (putRow encStr (Go.Sort.ahead w n) b 0 D) os) b cap 1 (List.map AV.str ss) := by
  obtain ⟨arr, T, fz, hr, hf, hs, _⟩ := h.row hp
  have hb : b < w.heap.size := h.lt hp
  have hw : (grow (putRow encStr (Go.Sort.ahead w n) b 0 D) os).heap[b]? = some (.cells (Go.Sort.putCells encStr 0 D arr) T fz) := by
    show ((w.heap.modify b _) ++ os)[b]? = _
    rw [Array.getElem?_append_left (by simpa using hb), Array.getElem?_modify, if_pos rfl, hr]
    rfl
  have hsz : (Go.Sort.putCells encStr 0 D arr).size = arr.size := by simp [Go.Sort.putCells]
  refine ⟨Nat.le_refl _, by simp; omega, fun i hi => ?_, fun _ => ⟨_, T, fz, hw, by rw [hsz]; exact hf, by rw [hsz]; exact hs, fun i j hi hj => ?_⟩⟩
  · have hi' : i < ss.length := by simpa using hi
    have e1 : (List.map AV.str ss).getD i .any = .str ss[i] := by
      rw [List.getD_eq_getElem?_getD, List.getElem?_map, List.getElem?_eq_getElem hi']; rfl
    rw [e1]; exact ⟨rfl, rfl⟩
  · have hi' : i < ss.length := by simpa using hi
    obtain rfl : j = 0 := by omega
    have e1 : (List.map AV.str ss).getD i .any = .str ss[i] := by
      rw [List.getD_eq_getElem?_getD, List.getElem?_map, List.getElem?_eq_getElem hi']; rfl
    rw [e1, Nat.mul_one, Nat.add_zero]
    have hlt : i < arr.size := by omega
    have e2 : (Go.Sort.putCells encStr 0 D arr).getD i undef = encStr ss[i] := by
      rw [Array.getD_eq_getD_getElem?, Go.Sort.putCells, Array.getElem?_mapIdx, Array.getElem?_eq_getElem hlt]
      simp only [Option.map_some, Option.getD_some]
      rw [if_pos ⟨Nat.zero_le _, by omega⟩, Nat.sub_zero, h3 i hi']
    rw [e2]
    exact .str

set_option maxRecDepth 100000 in
theorem hSort_is : Sound Tryz.prog 75 c_hSort := by
  refine ⟨fun e => Bool.noConfusion e, fun F g0 w args vargs hsh hsz hfr hok => ⟨fun e => Bool.noConfusion e, ?_⟩⟩
  obtain ⟨ss, rfl, hlen, e⟩ := sortF_inv hok
  have he := Go.Proofs.enters_of (P := Tryz.prog) Tryz.func75 (by kernel_rfl) rfl
  have h0 := arg_VR hfr (i := 0) (by simp)
  have hob : obGet (paramKey 0) (initOb 0 [AV.fresh 1 (List.map AV.str ss)]) = some ⟨1, List.map AV.str ss⟩ := by rw [initOb_paramKey]; rfl
  have hhome := hfr.home (paramKey 0) _ hob
  have hinOb : inOb (initOb 0 [AV.fresh 1 (List.map AV.str ss)]) (paramKey 0) := ⟨_, hob⟩
  have hv : vargs = #[vargs.getD 0 undef] := by
    obtain ⟨l⟩ := vargs
    match l, hsz with
    | [a], _ => rfl
  rw [hv]
  generalize vargs.getD 0 undef = v0 at h0
  have hperm : (sortS ss).length = ss.length := by unfold sortS; exact List.length_mergeSort _
  -- what is known behind the call
  have fin : ∀ w', Same (fun b => ∃ k, liv g0 (initOb 0 [AV.fresh 1 (List.map AV.str ss)]) k ∧ g0.β k = b) w w' → Home (SetOf F g0 [(paramKey 0, ⟨1, List.map AV.str (sortS ss)⟩)]) w' (g0.β (paramKey 0)) (g0.cap (paramKey 0)) 1 (List.map AV.str (sortS ss)) →
      Back F g0 [AV.fresh 1 (List.map AV.str ss)] [.io] w (.tuple #[]) w' (.cv undef) [.fresh 1 (List.map AV.str (sortS ss))] g0 [(paramKey 0, ⟨1, List.map AV.str (sortS ss)⟩)] id := by
    intro w' hs hh
    have only : ∀ k h, obGet k [(paramKey 0, (⟨1, List.map AV.str (sortS ss)⟩ : Hm))] = some h → k = paramKey 0 ∧ h = ⟨1, List.map AV.str (sortS ss)⟩ := by
      intro k h hg
      simp only [obGet, cond_eq_if, beq_iff_eq] at hg
      split at hg
      · rename_i e; cases hg; exact ⟨e.symm, rfl⟩
      · cases hg
    refine ⟨hs, fun k h hg => ?_, fun k k' a b _ => ?_, fun k a => ?_, fun k a => ?_, .cv, fun i j hi => ?_, fun i j hi => ?_, fun j hj => ?_⟩
    · obtain ⟨rfl, rfl⟩ := only k h hg; exact hh
    · obtain ⟨⟨h, hg⟩, _⟩ := a; obtain ⟨⟨h', hg'⟩, _⟩ := b
      rw [(only k h hg).1, (only k' h' hg').1]
    · obtain ⟨⟨h, hg⟩, hp⟩ := a
      rw [(only k h hg).1] at hp ⊢
      exact hfr.nF _ ⟨hinOb, hp⟩
    · obtain ⟨⟨h, hg⟩, hp⟩ := a
      rw [(only k h hg).1] at hp ⊢
      exact .inr ⟨_, ⟨hinOb, hp⟩, rfl⟩
    · exact absurd hi.2 Bool.false_ne_true
    · exact absurd hi.2 Bool.false_ne_true
    · match j, hj with
      | 0, _ => exact ⟨1, List.map AV.str ss, List.map AV.str (sortS ss), .inl ⟨rfl, rfl⟩, by simp [hperm], by simp [obGet], rfl, rfl⟩
  unfold Invokes
  rw [he]
  show Calls _ _ _ _ _
  have hF : (c_hSort.F [AV.fresh 1 (List.map AV.str ss)]) = ⟨true, .cv undef, [.fresh 1 (List.map AV.str (sortS ss))]⟩ := e
  rw [hF]
  obtain ⟨hm, hg, hval⟩ := h0
  rw [hob] at hg
  cases hg
  simp only [List.length_map] at hval
  rcases Nat.eq_zero_or_pos ss.length with hz | hp
  · have hnil : ss = [] := List.length_eq_zero_iff.1 hz
    subst hnil
    have hcall : ∀ p cap, v0 = .slice p 0 cap → Calls Tryz.prog 75 #[v0] w fun e w' => ∃ v g ob κ, e = .returned v ∧ Back F g0 [AV.fresh 1 (List.map AV.str [])] c_hSort.modes w v w' (.cv undef) [.fresh 1 (List.map AV.str (sortS []))] g ob κ := by
      intro p cap hv0
      subst hv0
      refine (Any.slices_Sort_string_none Tryz.lays190 p cap w).mono fun e w' ⟨h1, h2⟩ => ?_
      subst h2
      have hs0 : sortS [] = [] := by simp [sortS]
      exact ⟨_, g0, _, id, h1, fin w' (Same.refl _ _) (by
        rw [hs0]
        exact ⟨Nat.le_refl _, by simp, fun i hi => by simp at hi, fun hp => by
          obtain ⟨arr, T, fz, a1, a2, a3, _⟩ := hhome.row hp
          exact ⟨arr, T, fz, a1, a2, a3, fun i j hi => by simp at hi⟩⟩)⟩
    rcases hval with e | ⟨_, e⟩
    · exact hcall _ _ e
    · exact hcall _ _ e
  · have hcap : 0 < g0.cap (paramKey 0) := by have := hhome.len; simp only [List.length_map] at this; omega
    rcases hval with e | ⟨e0, _⟩
    · subst e
      refine (Any.slices_Sort_string Tryz.lays190 (g0.β (paramKey 0)) 0 (g0.cap (paramKey 0)) ss w (holds_of hhome) (hhome.lt hcap) hlen).mono fun e w' ⟨h1, n, os, h2⟩ => ?_
      subst h2
      refine ⟨_, g0, _, id, h1, fin _ (put_world.mono fun b _ hb => ⟨_, ⟨hinOb, hcap⟩, hb.symm⟩) (put_home hhome hcap (by simp [sortS]) ?_ (fun i hi => ?_))⟩
      · have := hhome.len
        simp only [List.length_map] at this
        simpa [List.length_mergeSort] using this
      · have hi' : i < (ss.mergeSort fun x y => decide (x ≤ y)).length := hi
        rw [getElem!_pos _ i (by simpa using hi')]
        simp [sortS]
    · omega

theorem comp_len (ss : List (List UInt8)) : (compS ss).length ≤ ss.length := by
  unfold compS Lib.compact Lib.compactUpTo
  rw [List.length_map]
  refine Nat.le_trans (List.length_filter_le _ _) (by simp)

set_option maxRecDepth 100000 in
theorem hCompact_is : Sound Tryz.prog 76 c_hCompact := by
  refine ⟨fun e => Bool.noConfusion e, fun F g0 w args vargs hsh hsz hfr hok => ⟨fun e => Bool.noConfusion e, ?_⟩⟩
  obtain ⟨ss, rfl, hlen, e⟩ := compF_inv hok
  have he := Go.Proofs.enters_of (P := Tryz.prog) Tryz.func76 (by kernel_rfl) rfl
  have h0 := arg_VR hfr (i := 0) (by simp)
  have hob : obGet (paramKey 0) (initOb 0 [AV.fresh 1 (List.map AV.str ss)]) = some ⟨1, List.map AV.str ss⟩ := by rw [initOb_paramKey]; rfl
  have hhome := hfr.home (paramKey 0) _ hob
  have hinOb : inOb (initOb 0 [AV.fresh 1 (List.map AV.str ss)]) (paramKey 0) := ⟨_, hob⟩
  have hv : vargs = #[vargs.getD 0 undef] := by
    obtain ⟨l⟩ := vargs
    match l, hsz with
    | [a], _ => rfl
  rw [hv]
  generalize vargs.getD 0 undef = v0 at h0
  have hcl := comp_len ss
  have fin : ∀ v w', Same (fun b => ∃ k, liv g0 (initOb 0 [AV.fresh 1 (List.map AV.str ss)]) k ∧ g0.β k = b) w w' → Home (SetOf F g0 [(paramKey 0, ⟨1, List.map AV.str (compS ss)⟩)]) w' (g0.β (paramKey 0)) (g0.cap (paramKey 0)) 1 (List.map AV.str (compS ss)) →
      (v = .slice (some ⟨g0.β (paramKey 0), 0, none⟩) (compS ss).length (g0.cap (paramKey 0)) ∨ (g0.cap (paramKey 0) = 0 ∧ v = .slice none 0 0)) →
      Back F g0 [AV.fresh 1 (List.map AV.str ss)] [.mov] w v w' (.fresh 1 (List.map AV.str (compS ss))) [.any] g0 [(paramKey 0, ⟨1, List.map AV.str (compS ss)⟩)] (fun _ => paramKey 0) := by
    intro v w' hs hh hvv
    have only : ∀ k h, obGet k [(paramKey 0, (⟨1, List.map AV.str (compS ss)⟩ : Hm))] = some h → k = paramKey 0 ∧ h = ⟨1, List.map AV.str (compS ss)⟩ := by
      intro k h hg
      simp only [obGet, cond_eq_if, beq_iff_eq] at hg
      split at hg
      · rename_i e; cases hg; exact ⟨e.symm, rfl⟩
      · cases hg
    refine ⟨hs, fun k h hg => ?_, fun k k' a b _ => ?_, fun k a => ?_, fun k a => ?_, ?_, fun i j hi hj _ => ?_, fun i j hi hj => ?_, fun j hj => ?_⟩
    · obtain ⟨rfl, rfl⟩ := only k h hg; exact hh
    · obtain ⟨⟨h, hg⟩, _⟩ := a; obtain ⟨⟨h', hg'⟩, _⟩ := b
      rw [(only k h hg).1, (only k' h' hg').1]
    · obtain ⟨⟨h, hg⟩, hp⟩ := a
      rw [(only k h hg).1] at hp ⊢
      exact hfr.nF _ ⟨hinOb, hp⟩
    · obtain ⟨⟨h, hg⟩, hp⟩ := a
      rw [(only k h hg).1] at hp ⊢
      exact .inr ⟨_, ⟨hinOb, hp⟩, rfl⟩
    · exact ⟨by simp [obGet], by simpa using hvv⟩
    · rw [hi.1, hj.1]
    · match j with
      | 0 => cases hj
      | j + 1 => simp at hj
    · match j with
      | 0 => cases hj
      | j + 1 => simp at hj
  unfold Invokes
  rw [he]
  show Calls _ _ _ _ _
  have hF : (c_hCompact.F [AV.fresh 1 (List.map AV.str ss)]) = ⟨true, .fresh 1 (List.map AV.str (compS ss)), [.any]⟩ := e
  rw [hF]
  obtain ⟨hm, hg, hval⟩ := h0
  rw [hob] at hg
  cases hg
  simp only [List.length_map] at hval
  rcases Nat.eq_zero_or_pos ss.length with hz | hp
  · have hnil : ss = [] := List.length_eq_zero_iff.1 hz
    subst hnil
    have hs0 : compS [] = [] := rfl
    have hcall : ∀ p cap, v0 = .slice p 0 cap → (v0 = .slice (some ⟨g0.β (paramKey 0), 0, none⟩) 0 (g0.cap (paramKey 0)) ∨ (g0.cap (paramKey 0) = 0 ∧ v0 = .slice none 0 0)) → Calls Tryz.prog 76 #[v0] w fun e w' => ∃ v g ob κ, e = .returned v ∧ Back F g0 [AV.fresh 1 (List.map AV.str [])] c_hCompact.modes w v w' (.fresh 1 (List.map AV.str (compS []))) [.any] g ob κ := by
      intro p cap hv0 hvv
      subst hv0
      refine (Any.slices_Compact_string_empty Tryz.lays194 p cap w).mono fun e w' ⟨h1, h2⟩ => ?_
      subst h2
      exact ⟨_, g0, _, _, h1, fin _ w' (Same.refl _ _) (by
        rw [hs0]
        exact ⟨Nat.le_refl _, by simp, fun i hi => by simp at hi, fun hp => by
          obtain ⟨arr, T, fz, a1, a2, a3, _⟩ := hhome.row hp
          exact ⟨arr, T, fz, a1, a2, a3, fun i j hi => by simp at hi⟩⟩) hvv⟩
    rcases hval with e | e
    · exact hcall _ _ e (.inl e)
    · exact hcall _ _ e.2 (.inr e)
  · have hcap : 0 < g0.cap (paramKey 0) := by have := hhome.len; simp only [List.length_map] at this; omega
    have hlc : ss.length ≤ g0.cap (paramKey 0) := by have := hhome.len; simpa using this
    rcases hval with e | ⟨e0, _⟩
    · subst e
      refine (Any.slices_Compact_string Tryz.lays194 (g0.β (paramKey 0)) 0 (g0.cap (paramKey 0)) ss w (holds_of hhome) (by omega) hlc).mono fun e w' ⟨h1, n, h2⟩ => ?_
      have h2' : w' = grow (putRow encStr (Go.Sort.ahead w n) (g0.β (paramKey 0)) 0 (Lib.compact ss ++ List.replicate (ss.length - (Lib.compact ss).length) []).toArray) #[] := by
        rw [h2, grow_none]
      subst h2'
      refine ⟨_, g0, _, _, h1, fin _ _ (put_world.mono fun b _ hb => ⟨_, ⟨hinOb, hcap⟩, hb.symm⟩) (put_home hhome hcap (by simp [compS]) ?_ (fun i hi => ?_)) (.inl rfl)⟩
      · have : (Lib.compact ss).length ≤ ss.length := hcl
        simp; omega
      · have hi' : i < (Lib.compact ss).length := hi
        rw [getElem!_pos _ i (by simp; omega)]
        simp [compS, List.getElem_append_left hi']
    · omega

end Go.Proofs.YtbobhejdijcofaaGreatDoor
