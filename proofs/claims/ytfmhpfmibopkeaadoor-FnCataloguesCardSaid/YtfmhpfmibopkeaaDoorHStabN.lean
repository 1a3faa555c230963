/- Plain lemmas: the library's stable sort at the images of elements. No condition. -/
import Derived.Test.YtfmhpfmibopkeaaDoorHStab
namespace Go.Proofs.YtfmhpfmibopkeaaDoor.stab
open Go Go.RowKit Go.Proofs.YtfmhpfmibopkeaaDoor
set_option linter.unusedSectionVars false
set_option linter.unusedSimpArgs false
set_option linter.unusedVariables false

theorem whileE_nat {σ ρ σ' ρ' : Type} {step : σ → Option (σ ⊕ ρ)} {step' : σ' → Option (σ' ⊕ ρ')} (r : σ → σ') (rr : ρ → ρ')
    (h : ∀ s, step' (r s) = (step s).map (Sum.map r rr)) (s : σ) : whileE step' (r s) = (whileE step s).map rr := by
  have one : ∀ n s, iterE step' n (r s) = (iterE step n s).map rr := by
    intro n
    induction n with
    | zero => intro s; rfl
    | succ n ih =>
      intro s
      simp only [iterE, h s]
      cases step s with
      | none => rfl
      | some o =>
        cases o with
        | inl s' => exact ih s'
        | inr r => rfl
  cases hw : whileE step s with
  | some y =>
    obtain ⟨n, hn⟩ := whileE_some hw
    exact whileE_of (n := n) (by rw [one, hn]; rfl)
  | none =>
    cases hw' : whileE step' (r s) with
    | none => rfl
    | some y =>
      obtain ⟨n, hn⟩ := whileE_some hw'
      rw [one] at hn
      cases hi : iterE step n s with
      | none => rw [hi] at hn; cases hn
      | some z => rw [whileE_of hi] at hw; cases hw

theorem ck_map {α β : Type} (c : Bool) (o : Option α) (g : α → β) : (ck c o).map g = ck c (o.map g) := by cases c <;> rfl
theorem ite_map {α β : Type} (c : Prop) [Decidable c] (a b : Option α) (g : α → β) : (if c then a else b).map g = if c then a.map g else b.map g := by split <;> rfl
theorem bind_map' {α β γ : Type} (o : Option α) (k : α → Option β) (g : β → γ) : (o.bind k).map g = o.bind fun x => (k x).map g := by cases o <;> rfl
theorem map_bind' {α β γ : Type} (o : Option α) (h : α → β) (k : β → Option γ) : (o.map h).bind k = o.bind fun x => k (h x) := by cases o <;> rfl

section
variable {α β : Type} [Inhabited α] [Inhabited β] (f : β → α)

theorem getD_nat (hf : f default = default) (l : List β) (i : Nat) : (l.map f).getD i default = f (l.getD i default) := by
  rw [List.getD_eq_getElem?_getD, List.getElem?_map, List.getD_eq_getElem?_getD]
  cases l[i]? with
  | none => exact hf.symm
  | some x => rfl

theorem set_nat (l : List β) (i : Nat) (x : β) : (l.map f).set i (f x) = (l.set i x).map f := List.map_set.symm

def r1 (f : β → α) : List β × Int → List α × Int := fun s => (s.1.map f, s.2)
def r2 (f : β → α) : List β × Int × Int → List α × Int × Int := fun s => (s.1.map f, s.2)

theorem n_ins2 (hf : f default = default) (cmp : α → α → Option Int) (a b i : Int) (s : List β × Int) : gINS_l2 cmp a b i (r1 f s) = (gINS_l2 (fun x y => cmp (f x) (f y)) a b i s).map (Sum.map (r1 f) (List.map f)) := by
  obtain ⟨d, j⟩ := s
  simp only [gINS_l2, r1, List.length_map, getD_nat f hf, set_nat, ck_map, ite_map, Option.map_some, Sum.map_inl, Sum.map_inr]
  try rfl

theorem n_ins1 (hf : f default = default) (cmp : α → α → Option Int) (a b : Int) (s : List β × Int) : gINS_l1 cmp a b (r1 f s) = (gINS_l1 (fun x y => cmp (f x) (f y)) a b s).map (Sum.map (r1 f) (List.map f)) := by
  obtain ⟨d, i⟩ := s
  have := whileE_nat (r1 f) (List.map f) (n_ins2 f hf cmp a b i) (d, i)
  simp only [r1] at this
  simp only [gINS_l1, r1, this, map_bind', bind_map', ite_map, Option.map_some, Sum.map_inl, Sum.map_inr]
  try rfl

theorem n_ins (hf : f default = default) (cmp : α → α → Option Int) (d : List β) (a b : Int) : gINS cmp (d.map f) a b = (gINS (fun x y => cmp (f x) (f y)) d a b).map (List.map f) := by
  have := whileE_nat (r1 f) (List.map f) (n_ins1 f hf cmp a b) (d, IntKind.i64.wrap (a + 1))
  simp only [r1] at this
  simp only [gINS, this, map_bind', bind_map', ck_map, Option.map_some, List.length_map]
  try rfl

theorem n_swp1 (hf : f default = default) (a b n : Int) (s : List β × Int) : gSWP_l1 a b n (r1 f s) = (gSWP_l1 a b n s).map (Sum.map (r1 f) (List.map f)) := by
  obtain ⟨d, j⟩ := s
  simp only [gSWP_l1, r1, List.length_map, getD_nat f hf, set_nat, ck_map, ite_map, Option.map_some, Sum.map_inl, Sum.map_inr]
  try rfl

theorem n_swp (hf : f default = default) (d : List β) (a b n : Int) : gSWP (d.map f) a b n = (gSWP d a b n).map (List.map f) := by
  have := whileE_nat (r1 f) (List.map f) (n_swp1 f hf a b n) (d, 0)
  simp only [r1] at this
  simp only [gSWP, this, map_bind', bind_map', ck_map, Option.map_some, List.length_map]
  try rfl

theorem n_rot1 (hf : f default = default) (m : Int) (s : List β × Int × Int) : gROT_l1 m (r2 f s) = (gROT_l1 m s).map (Sum.map (r2 f) (r1 f)) := by
  obtain ⟨d, i, j⟩ := s
  simp only [gROT_l1, r1, r2, n_swp f hf, map_bind', bind_map', ite_map, Option.map_some, Sum.map_inl, Sum.map_inr]
  try rfl

theorem n_rot (hf : f default = default) (d : List β) (a m b : Int) : gROT (d.map f) a m b = (gROT d a m b).map (List.map f) := by
  have := whileE_nat (r2 f) (r1 f) (n_rot1 f hf m) (d, IntKind.i64.wrap (m - a), IntKind.i64.wrap (b - m))
  simp only [r1, r2] at this
  simp only [gROT, r1, this, n_swp f hf, map_bind', bind_map', ck_map, Option.map_some, List.length_map]
  try rfl

theorem sum_id {α β : Type} (o : Option (α ⊕ β)) : o.map (Sum.map id id) = o := by
  rcases o with _ | x | x <;> rfl

theorem n_sym1 (hf : f default = default) (cmp : α → α → Option Int) (d : List β) (a : Int) : gSYM_l1 cmp (d.map f) a = gSYM_l1 (fun x y => cmp (f x) (f y)) d a := by
  funext ⟨i, j⟩
  simp only [gSYM_l1, List.length_map, getD_nat f hf]
  try rfl
theorem n_sym3 (hf : f default = default) (cmp : α → α → Option Int) (d : List β) (a : Int) : gSYM_l3 cmp (d.map f) a = gSYM_l3 (fun x y => cmp (f x) (f y)) d a := by
  funext ⟨i, j⟩
  simp only [gSYM_l3, List.length_map, getD_nat f hf]
  try rfl
theorem n_sym5 (hf : f default = default) (cmp : α → α → Option Int) (d : List β) (a m b mid n p : Int) : gSYM_l5 cmp (d.map f) a m b mid n p = gSYM_l5 (fun x y => cmp (f x) (f y)) d a m b mid n p := by
  funext ⟨i, j⟩
  simp only [gSYM_l5, List.length_map, getD_nat f hf]
  try rfl
theorem n_sym6 (hf : f default = default) (cmp : α → α → Option Int) (d : List β) (a m b mid n p : Int) : gSYM_l6 cmp (d.map f) a m b mid n p = gSYM_l6 (fun x y => cmp (f x) (f y)) d a m b mid n p := by
  funext ⟨i, j⟩
  simp only [gSYM_l6, List.length_map, getD_nat f hf]
  try rfl
theorem n_sym2' (hf : f default = default) (i : Int) (s : List β × Int) : gSYM_l2 i (r1 f s) = (gSYM_l2 i s).map (Sum.map (r1 f) (List.map f)) := by
  obtain ⟨d, j⟩ := s
  simp only [gSYM_l2, r1, List.length_map, getD_nat f hf, set_nat, ck_map, ite_map, Option.map_some, Sum.map_inl, Sum.map_inr]
  try rfl
theorem n_sym4' (hf : f default = default) (i : Int) (s : List β × Int) : gSYM_l4 i (r1 f s) = (gSYM_l4 i s).map (Sum.map (r1 f) (List.map f)) := by
  obtain ⟨d, j⟩ := s
  simp only [gSYM_l4, r1, List.length_map, getD_nat f hf, set_nat, ck_map, ite_map, Option.map_some, Sum.map_inl, Sum.map_inr]
  try rfl
theorem n_sym2 (hf : f default = default) (i : Int) (d : List β) (k : Int) : whileE (gSYM_l2 i) (d.map f, k) = (whileE (gSYM_l2 i) (d, k)).map (List.map f) := whileE_nat (r1 f) (List.map f) (n_sym2' f hf i) (d, k)
theorem n_sym4 (hf : f default = default) (i : Int) (d : List β) (k : Int) : whileE (gSYM_l4 i) (d.map f, k) = (whileE (gSYM_l4 i) (d, k)).map (List.map f) := whileE_nat (r1 f) (List.map f) (n_sym4' f hf i) (d, k)

theorem n_sym (hf : f default = default) (cmp : α → α → Option Int) : ∀ (k : Nat) (d : List β) (a m b : Int), gSYM_n cmp k (d.map f) a m b = (gSYM_n (fun x y => cmp (f x) (f y)) k d a m b).map (List.map f)
  | 0, _, _, _, _ => rfl
  | k + 1, d, a, m, b => by
    have ih := n_sym hf cmp k
    unfold gSYM_n
    simp only [n_sym1 f hf, n_sym3 f hf, n_sym5 f hf, n_sym6 f hf, n_sym2 f hf, n_sym4 f hf, n_rot f hf, ih, map_bind', bind_map', ck_map, ite_map, Option.map_some, List.length_map]
    try rfl

theorem n_stb1 (hf : f default = default) (cmp : α → α → Option Int) (n bs : Int) (s : List β × Int × Int) : gSTB_l1 cmp n bs (r2 f s) = (gSTB_l1 (fun x y => cmp (f x) (f y)) n bs s).map (Sum.map (r2 f) (r1 f)) := by
  obtain ⟨d, i, j⟩ := s
  simp only [gSTB_l1, r1, r2, n_ins f hf, map_bind', bind_map', ite_map, Option.map_some, Sum.map_inl, Sum.map_inr]
  try rfl
theorem n_stb3 (hf : f default = default) (cmp : α → α → Option Int) (n bs : Int) (s : List β × Int × Int) : gSTB_l3 cmp n bs (r2 f s) = (gSTB_l3 (fun x y => cmp (f x) (f y)) n bs s).map (Sum.map (r2 f) (r1 f)) := by
  obtain ⟨d, i, j⟩ := s
  simp only [gSTB_l3, gSYM, r1, r2, n_sym f hf, map_bind', bind_map', ite_map, Option.map_some, Sum.map_inl, Sum.map_inr]
  try rfl
theorem n_stb2 (hf : f default = default) (cmp : α → α → Option Int) (n : Int) (s : List β × Int) : gSTB_l2 cmp n (r1 f s) = (gSTB_l2 (fun x y => cmp (f x) (f y)) n s).map (Sum.map (r1 f) (List.map f)) := by
  obtain ⟨d, bs⟩ := s
  have := whileE_nat (r2 f) (r1 f) (n_stb3 f hf cmp n bs) (d, 0, IntKind.i64.wrap (2 * bs))
  simp only [r1, r2] at this
  simp only [gSTB_l2, gSYM, r1, this, n_sym f hf, map_bind', bind_map', ite_map, Option.map_some, Sum.map_inl, Sum.map_inr]
  try rfl

theorem n_stb (hf : f default = default) (cmp : α → α → Option Int) (d : List β) (n : Int) : gSTB cmp (d.map f) n = (gSTB (fun x y => cmp (f x) (f y)) d n).map (List.map f) := by
  have h1 := whileE_nat (r2 f) (r1 f) (n_stb1 f hf cmp n 20) (d, 0, 20)
  have h2 := fun d' : List β => whileE_nat (r1 f) (List.map f) (n_stb2 f hf cmp n) (d', 20)
  simp only [r1, r2] at h1 h2
  simp only [gSTB, r1, h1, h2, n_ins f hf, map_bind', bind_map', ck_map, Option.map_some, List.length_map]
  try rfl

end

end Go.Proofs.YtfmhpfmibopkeaaDoor.stab
