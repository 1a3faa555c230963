/- The library's slices.Delete at lists of Rule, at this translation. No condition. -/
import Derived.Test.YtelkmhdolnjnpaaGreatDoorEngInsRule
import Derived.Deep.RegionLaw
import Derived.Lib.SliceRun
namespace Go.Proofs.YtelkmhdolnjnpaaGreatDoor.delRule
open Go Go.RowKit Go.Lib Go.Proofs.YtelkmhdolnjnpaaGreatDoor Go.Proofs.YtelkmhdolnjnpaaGreatDoor.insRule
set_option linter.unusedVariables false
set_option linter.unusedSimpArgs false

theorem zv (w : World) : (zeroValue 35).run Tryz.prog w = .ok (.agg #[.string ⟨#[]⟩, .int .i64 0, .int .i64 0, .int .i64 0, .int .i64 0, .int .i64 0]) w := by
  obtain ⟨i0, hi0, hz0, hzs, hzb⟩ := info_parts iE
  simp [zeroValue, typeInfo, hi0, hz0]

theorem zero_one (k : Nat) : ∀ v ∈ (Builtin.zeroCells (Value.cells (.agg #[.string ⟨#[]⟩, .int .i64 0, .int .i64 0, .int .i64 0, .int .i64 0, .int .i64 0])) k).toList, v.oneCell' = true := by
  intro v hv
  unfold Builtin.zeroCells at hv
  rw [Array.toList_map] at hv
  obtain ⟨i, _, rfl⟩ := List.mem_map.1 hv
  have h : ∀ i : Fin 6, ((Value.cells (.agg #[.string ⟨#[]⟩, .int .i64 0, .int .i64 0, .int .i64 0, .int .i64 0, .int .i64 0]))[i.val]!).oneCell' = true := by decide +kernel
  exact h ⟨i % 6, Nat.mod_lt _ (by decide)⟩

/-- clear at elements of 6 cells. -/
theorem run_cleark (w : World) (ty : TypeId) (b o n c : Nat) (hn : 0 < n) (hc : ∀ j, j < n * 6 → (w.cell? ⟨b, o + j, none⟩).isSome = true) (hf : ∀ j, j < n * 6 → w.frozen? ⟨b, o + j, none⟩ = false) :
    (Builtin.clear_ #[24] ty #[.slice (some ⟨b, o, none⟩) n c]).run Tryz.prog w = .ok (.tuple #[]) (w.setCells b o (Builtin.zeroCells (Value.cells (.agg #[.string ⟨#[]⟩, .int .i64 0, .int .i64 0, .int .i64 0, .int .i64 0, .int .i64 0])) n).toList) := by
  have hl : (Builtin.zeroCells (Value.cells (.agg #[.string ⟨#[]⟩, .int .i64 0, .int .i64 0, .int .i64 0, .int .i64 0, .int .i64 0])) n).toList.length = n * 6 := by rw [Array.length_toList, zeroSize]
  have hst := run_storeCells_cells (P := Tryz.prog) b o (Builtin.zeroCells (Value.cells (.agg #[.string ⟨#[]⟩, .int .i64 0, .int .i64 0, .int .i64 0, .int .i64 0, .int .i64 0])) n).toList 0 w (fun j hj => by rw [hl] at hj; rw [Nat.add_zero]; exact hc j hj) (fun j hj => by rw [hl] at hj; rw [Nat.add_zero]; exact hf j hj) (zero_one n)
  rw [Nat.add_zero] at hst
  generalize hZ : (Builtin.zeroCells (Value.cells (.agg #[.string ⟨#[]⟩, .int .i64 0, .int .i64 0, .int .i64 0, .int .i64 0, .int .i64 0])) n).toList = ZL at hst ⊢
  obtain ⟨m, rfl⟩ : ∃ m, n = m + 1 := ⟨n - 1, by omega⟩
  simp [Builtin.clear_, run_underlying uS, zv, hZ, hst]

set_option maxHeartbeats 4000000 in
set_option maxRecDepth 100000 in
theorem del (b n c i j : Nat) (cs : List Value) (w : World) (hij : i < j) (hj : j ≤ n) (hnc : n ≤ c) (hn63 : n ≤ 4611686018427387904)
    (hcl : cs.length = n * 6) (hcs : ∀ t v, cs[t]? = some v → w.cell? ⟨b, t, none⟩ = some v) (hsp : ∀ t, t < n * 6 → (w.cell? ⟨b, t, none⟩).isSome = true) (hfz : ∀ t, t < n * 6 → w.frozen? ⟨b, t, none⟩ = false) (h1c : ∀ v ∈ cs, v.oneCell' = true) :
    Calls Tryz.prog 46 #[.slice (some ⟨b, 0, none⟩) n c, .int .i64 i, .int .i64 j] w fun e w' =>
      e = .returned (.slice (some ⟨b, 0, none⟩) (i + (n - j)) c) ∧ w' = (w.drew.setCells b (i * 6) (cs.drop (j * 6))).setCells b ((i + (n - j)) * 6) (Builtin.zeroCells (Value.cells (.agg #[.string ⟨#[]⟩, .int .i64 0, .int .i64 0, .int .i64 0, .int .i64 0, .int .i64 0])) (n - (i + (n - j)))).toList := by
  have mixed := mixed
  obtain ⟨i0, hi0, hz0, hzs, hzb⟩ := info_parts iE
  have hdl : (cs.drop (j * 6)).length = (n - j) * 6 := by rw [List.length_drop, hcl, Nat.sub_mul]
  obtain ⟨A, hA, hsrc⟩ : ∃ A : Addr, (if c = j then some (⟨b, 0, none⟩ : Addr) else some ⟨b, j * 6, none⟩) = some A ∧ Hid (∀ t u, (cs.drop (j * 6))[t]? = some u → w.drew.cell? (A.add t) = some u) := by
    by_cases h : c = j
    · refine ⟨⟨b, 0, none⟩, by simp [h], fun t u hu => ?_⟩
      rw [List.length_eq_zero_iff.1 (show (cs.drop (j * 6)).length = 0 by rw [hdl]; omega)] at hu
      simp at hu
    · refine ⟨⟨b, j * 6, none⟩, by simp [h], fun t u hu => ?_⟩
      rw [Addr.add_lit]
      exact hcs (j * 6 + t) u (by rwa [List.getElem?_drop] at hu)
  have s1 : Hid ((cs.drop (j * 6)).length = (n - j) * 6) := hdl
  have s2 : Hid (∀ u ∈ cs.drop (j * 6), u.oneCell' = true) := fun u hu => h1c u (List.mem_of_mem_drop hu)
  have s3 : Hid (∀ t, t < (cs.drop (j * 6)).length → (w.drew.cell? ⟨b, 0 + i * 6 + t, none⟩).isSome = true ∧ w.drew.frozen? ⟨b, 0 + i * 6 + t, none⟩ = false) := by
    intro t ht
    rw [hdl] at ht
    rw [Nat.zero_add]
    exact ⟨hsp _ (by omega), hfz _ (by omega)⟩
  obtain ⟨W1, hW1⟩ : ∃ W1, W1 = w.drew.setCells b (i * 6) (cs.drop (j * 6)) := ⟨_, rfl⟩
  have hsp1 : ∀ k, k < n * 6 → (W1.cell? ⟨b, k, none⟩).isSome = true := fun k hk => by
    rw [hW1]
    exact isSome_setCells b (cs.drop (j * 6)) (i * 6) w.drew (fun t ht => hsp (i * 6 + t) (by rw [hdl] at ht; omega)) k (hsp k hk)
  have hcl1 : ∀ ty, (Builtin.clear_ #[24] ty #[.slice (some ⟨b, (i + (n - j)) * 6, none⟩) (n - (i + (n - j))) (c - (i + (n - j)))]).run Tryz.prog W1 = .ok (.tuple #[]) (W1.setCells b ((i + (n - j)) * 6) (Builtin.zeroCells (Value.cells (.agg #[.string ⟨#[]⟩, .int .i64 0, .int .i64 0, .int .i64 0, .int .i64 0, .int .i64 0])) (n - (i + (n - j)))).toList) := fun ty =>
    run_cleark W1 ty b ((i + (n - j)) * 6) (n - (i + (n - j))) (c - (i + (n - j))) (by omega) (fun t ht => hsp1 _ (by omega)) (fun t ht => by rw [hW1, World.frozen?_setCells]; exact hfz _ (by omega))
  have hW : Hid (W1 = w.drew.setCells b (0 + i * 6) (cs.drop (j * 6))) := by rw [Nat.zero_add]; exact hW1
  rw [← hW1]
  have hic : i ≤ c := by omega
  have hjc : j ≤ c := by omega
  have hzz : ¬ ((i : Int) = (j : Int)) := by omega
  have hne : ¬ (i = j) := by omega
  clear hW1 hsp1 hcs hdl
  go_enter Tryz.func46, Tryz.ntmps46
  go_wp2_with fail
  go_region_law_o (refine step_append_room rfl (.tmp 22) (.tmp 25) 24 rfl 35 i0 6 uS hi0 hzs b 0 i c (by simp [Act.eval, Act.put]) A (n - j) (c - j) (cs.drop (j * 6)) (by simp [Act.eval, Act.put]) s1.out hsrc.out s2.out (by omega) s3.out ?_; rw [← hW.out])
  go_wp2
  go_ret
  exact ⟨rfl, rfl⟩

/-! ### Soundness -/

def cut2 (els : List AV) (i j : Nat) : List AV := els.take i ++ els.drop j

theorem cut2_len {els : List AV} {i j : Nat} (hij : i < j) (hj : j ≤ els.length) : (cut2 els i j).length = i + (els.length - j) := by unfold cut2; simp; omega

theorem cut2_get {els : List AV} {i j : Nat} (hij : i < j) (hj : j ≤ els.length) (k : Nat) : (cut2 els i j).getD k .any = if k < i then els.getD k .any else els.getD (k - i + j) .any := by
  unfold cut2
  have hl : (els.take i).length = i := by rw [List.length_take]; omega
  rw [List.getD_eq_getElem?_getD]
  by_cases c : k < i
  · rw [if_pos c, List.getElem?_append_left (by omega), List.getElem?_take, if_pos c, List.getD_eq_getElem?_getD]
  · rw [if_neg c, List.getElem?_append_right (by omega), hl, List.getElem?_drop, show j + (k - i) = k - i + j by omega, List.getD_eq_getElem?_getD]

set_option maxHeartbeats 4000000 in
set_option maxRecDepth 100000 in
theorem sound : Sound Tryz.prog 46 (c_hDel 6) := by
  refine ⟨fun e => Bool.noConfusion e, fun F g0 w args vargs hsh hsz hfr hok => ⟨fun e => Bool.noConfusion e, ?_⟩⟩
  obtain ⟨els, ii, jj, ⟨hi0, hi1, hi2⟩, hbig, rfl, e⟩ := hDelF_inv hok
  obtain ⟨i, rfl⟩ : ∃ k : Nat, ii = k := ⟨ii.toNat, by omega⟩
  obtain ⟨j, rfl⟩ : ∃ k : Nat, jj = k := ⟨jj.toNat, by omega⟩
  have hij : i < j := by omega
  have hj : j ≤ els.length := by omega
  have he := Go.Proofs.enters_of (P := Tryz.prog) Tryz.func46 (by kernel_rfl) rfl
  have h0 := arg_VR hfr (i := 0) (by simp)
  have h1 := arg_VR hfr (i := 1) (by simp)
  have h2 := arg_VR hfr (i := 2) (by simp)
  have hob0 : obGet (paramKey 0) (initOb 0 [AV.fresh 6 els, .int .i64 (i : Int), .int .i64 (j : Int)]) = some ⟨6, els⟩ := by rw [initOb_paramKey]; rfl
  have home0 : Home (SetOf F g0 (initOb 0 [AV.fresh 6 els, .int .i64 (i : Int), .int .i64 (j : Int)])) w (g0.β (paramKey 0)) (g0.cap (paramKey 0)) 6 els := hfr.home (paramKey 0) _ hob0
  have hlen := home0.len
  have hp : 0 < g0.cap (paramKey 0) := by omega
  have hl0 : liv g0 (initOb 0 [AV.fresh 6 els, .int .i64 (i : Int), .int .i64 (j : Int)]) (paramKey 0) := ⟨⟨_, hob0⟩, hp⟩
  have hv3 : vargs.size = 3 := hsz
  rw [vargs_three hv3]
  generalize vargs.getD 0 undef = v0 at h0
  generalize vargs.getD 1 undef = v1 at h1
  generalize vargs.getD 2 undef = v2 at h2
  obtain ⟨hm0, hg0, hval0⟩ := h0
  rw [hob0] at hg0; cases hg0
  have hval0 : v0 = .slice (some ⟨g0.β (paramKey 0), 0, none⟩) els.length (g0.cap (paramKey 0)) ∨ (g0.cap (paramKey 0) = 0 ∧ v0 = .slice none 0 0) := hval0
  have h1 : VR _ w v1 (.int .i64 (i : Int)) := h1
  cases h1
  have h2 : VR _ w v2 (.int .i64 (j : Int)) := h2
  cases h2
  have e0 : v0 = .slice (some ⟨g0.β (paramKey 0), 0, none⟩) els.length (g0.cap (paramKey 0)) := by
    rcases hval0 with e | ⟨e, _⟩
    · exact e
    · omega
  subst e0
  obtain ⟨arr0, T0, hr0, hs0, cs, cl, cget, ccell, c1c, cvr⟩ := row_of home0 hp
  have some0 : ∀ t, t < arr0.size → (w.cell? ⟨g0.β (paramKey 0), t, none⟩).isSome = true := fun t ht => by
    simp only [World.cell?, hr0]
    rw [Array.getElem?_eq_getElem ht]; rfl
  have froz0 : ∀ t, w.frozen? ⟨g0.β (paramKey 0), t, none⟩ = false := fun t => by simp [World.frozen?, hr0]
  have own0 : ∃ k', liv g0 (initOb 0 [AV.fresh 6 els, .int .i64 (i : Int), .int .i64 (j : Int)]) k' ∧ g0.β k' = g0.β (paramKey 0) := ⟨_, hl0, rfl⟩
  have hnF0 : ¬ F (g0.β (paramKey 0)) := hfr.nF _ hl0
  unfold Invokes
  rw [he]
  show Calls _ _ _ _ _
  have hcall := del (g0.β (paramKey 0)) els.length (g0.cap (paramKey 0)) i j cs w hij hj hlen hbig cl ccell (fun t ht => some0 _ (by rw [hs0]; omega)) (fun t ht => froz0 _) c1c
  refine hcall.mono fun e' w' ⟨a1, a2⟩ => ?_
  rw [a1]
  have dl : (cs.drop (j * 6)).length = (els.length - j) * 6 := by rw [List.length_drop, cl, Nat.sub_mul]
  have zl : (Builtin.zeroCells (Value.cells (.agg #[.string ⟨#[]⟩, .int .i64 0, .int .i64 0, .int .i64 0, .int .i64 0, .int .i64 0])) (els.length - (i + (els.length - j)))).toList.length = (els.length - (i + (els.length - j))) * 6 := by rw [Array.length_toList, zeroSize]
  obtain ⟨arr1, b1, b2, b3⟩ := heap_setCells (g0.β (paramKey 0)) (cs.drop (j * 6)) (i * 6) w.drew arr0 T0 (0, 0) hr0 (by rw [dl, hs0]; omega)
  obtain ⟨arr', c1, c2, c3⟩ := heap_setCells (g0.β (paramKey 0)) (Builtin.zeroCells (Value.cells (.agg #[.string ⟨#[]⟩, .int .i64 0, .int .i64 0, .int .i64 0, .int .i64 0, .int .i64 0])) (els.length - (i + (els.length - j)))).toList ((i + (els.length - j)) * 6) _ arr1 T0 (0, 0) b1 (by rw [zl, b2, hs0]; omega)
  have hsame : Same (fun b => ∃ k', liv g0 (initOb 0 [AV.fresh 6 els, .int .i64 (i : Int), .int .i64 (j : Int)]) k' ∧ g0.β k' = b) w w' := by
    rw [a2]
    refine Same.mono (S := fun x => x = g0.β (paramKey 0)) ?_ fun b _ hb => by subst hb; exact own0
    exact ((Same.drew _ w).trans (same_setCells _ _ _ _)).trans (same_setCells _ _ _ _)
  have hheap : w'.heap[g0.β (paramKey 0)]? = some (.cells arr' T0 (0, 0)) := by rw [a2]; exact c1
  have hcell : ∀ k t, k < i + (els.length - j) → t < 6 → arr'.getD (k * 6 + t) undef = if k < i then cs.getD (k * 6 + t) undef else cs.getD ((k - i + j) * 6 + t) undef := by
    intro k t hk ht
    rw [c3, if_neg (by omega), b3, dl]
    by_cases c : k < i
    · rw [if_neg (by omega), if_pos c, cget _ (by omega)]
    · rw [if_pos (by omega), if_neg c, drop_getD]
      congr 1
      omega
  have hF : ((c_hDel 6).F [AV.fresh 6 els, .int .i64 (i : Int), .int .i64 (j : Int)]) = ⟨true, .fresh 6 (cut2 els i j), [.any, .any, .any]⟩ := e
  rw [hF]
  have noio : ∀ q : Nat, (c_hDel 6).modes[q]? ≠ some Md.io := fun q => by
    show ([.mov, .bor, .bor] : List Md)[q]? ≠ some Md.io
    match q with
    | 0 => intro h; cases h
    | 1 => intro h; cases h
    | 2 => intro h; cases h
    | q + 3 => simp
  have only : ∀ q h, obGet q [(0, (⟨6, cut2 els i j⟩ : Hm))] = some h → q = 0 ∧ h = ⟨6, cut2 els i j⟩ := by
    intro q h hg
    simp only [obGet, cond_eq_if, beq_iff_eq] at hg
    split at hg
    · rename_i e; cases hg; exact ⟨e.symm, rfl⟩
    · cases hg
  refine ⟨_, ⟨fun _ => g0.β (paramKey 0), fun _ => g0.cap (paramKey 0)⟩, [(0, ⟨6, cut2 els i j⟩)], fun _ => 0, rfl, ⟨hsame, fun q h hg => ?_, fun q q' a b _ => ?_, fun q a => hnF0, fun q a => .inr own0, ?_, fun i j hi hj _ => ?_, fun i j _ hj => absurd hj (noio j), fun j hj => absurd hj (noio j)⟩⟩
  · obtain ⟨rfl, rfl⟩ := only q h hg
    refine ⟨(by decide : 1 ≤ 6), by rw [cut2_len hij hj]; show i + (els.length - j) ≤ g0.cap (paramKey 0); omega, fun k hk => ?_, fun _ => ⟨arr', T0, (0, 0), hheap, .inl rfl, by show arr'.size = g0.cap (paramKey 0) * 6; rw [c2, b2, hs0], fun k t hk ht => ?_⟩⟩
    · rw [cut2_len hij hj] at hk
      rw [cut2_get hij hj]
      split
      · exact home0.cells k (by omega)
      · exact home0.cells _ (by omega)
    · rw [cut2_len hij hj] at hk
      rw [hcell k t hk ht, cut2_get hij hj]
      have hS : ∀ b, b < w.heap.size → SetOf F ⟨fun _ => g0.β (paramKey 0), fun _ => g0.cap (paramKey 0)⟩ [(0, (⟨6, cut2 els i j⟩ : Hm))] b → SetOf F g0 (initOb 0 [AV.fresh 6 els, .int .i64 (i : Int), .int .i64 (j : Int)]) b := fun b hb hsb => by
        rcases hsb with h | ⟨_, _, h⟩
        · exact .inl h
        · have h : g0.β (paramKey 0) = b := h
          subst h
          exact .inr own0
      by_cases c : k < i
      · rw [if_pos c, if_pos c]
        exact (cvr k t (by omega) ht).mono (hsame.mono fun b _ hb => .inr hb) hS
      · rw [if_neg c, if_neg c]
        exact (cvr (k - i + j) t (by omega) ht).mono (hsame.mono fun b _ hb => .inr hb) hS
  · obtain ⟨⟨h, hg⟩, _⟩ := a; obtain ⟨⟨h', hg'⟩, _⟩ := b
    rw [(only q h hg).1, (only q' h' hg').1]
  · exact ⟨by simp [obGet], .inl (by simp only [cut2_len hij hj])⟩
  · rw [hi.1, hj.1]

end Go.Proofs.YtelkmhdolnjnpaaGreatDoor.delRule

namespace Go.Proofs.YtelkmhdolnjnpaaGreatDoor
open Go Go.RowKit

def c_hDelRule : Ctr := c_hDel 6
theorem M_hDelRule : c_hDelRule.modes = [.mov, .bor, .bor] := rfl
theorem Fl_hDelRule : c_hDelRule.flat = false := rfl
attribute [go_sem] M_hDelRule Fl_hDelRule
theorem Fs_hDelRule {α : Type} (f : α → AV) {l : List α} {i j : Int} {y_ : List α} (h : hDel l i j = some y_) : c_hDelRule.F [.fresh 6 (List.map f l), .int .i64 i, .int .i64 j] = ⟨true, .fresh 6 (List.map f y_), [.any, .any, .any]⟩ := Fs_hDelA 6 f h
theorem hDelRule_is : Sound Tryz.prog 46 c_hDelRule := delRule.sound

end Go.Proofs.YtelkmhdolnjnpaaGreatDoor
