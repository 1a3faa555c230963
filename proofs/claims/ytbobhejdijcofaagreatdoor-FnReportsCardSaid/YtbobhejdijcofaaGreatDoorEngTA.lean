/- Typed forms of functions: what their proofs share. No condition. -/
import Derived.Test.YtbobhejdijcofaaGreatDoorEngZ
import Derived.Test.YtbobhejdijcofaaGreatDoorEngB
namespace Go.Proofs.YtbobhejdijcofaaGreatDoor
open Go Go.RowKit
set_option linter.unusedSimpArgs false
set_option linter.unusedVariables false

/-! ### Short names for operations -/

def PM (k n : Nat) : Ins := ⟨.push, k, none, .mov (.v n)⟩
def VS (n k i : Nat) : Ins := ⟨.var n, k, none, .mov (.s i)⟩
def PO (k : Nat) (a : AOp) : Ins := ⟨.push, k, none, a⟩
def VO (n k : Nat) (a : AOp) : Ins := ⟨.var n, k, none, a⟩
def SO (n k : Nat) (a : AOp) : Ins := ⟨.slot n, k, none, a⟩
def I6 (n : Int) : Src := .c (.int .i64 n)
attribute [go_sem] PM VS PO VO SO I6

/-! ### Small pieces of typed code -/

def ck {α : Type} (c : Bool) (k : Option α) : Option α := if c = true then k else none

theorem ck_some {α : Type} {c : Bool} {k : Option α} {r : α} (h : ck c k = some r) : c = true ∧ k = some r := by
  unfold ck at h; split at h
  · exact ⟨by assumption, h⟩
  · cases h
theorem ck_true {α : Type} (k : Option α) : ck true k = k := id rfl
theorem ck_of {α : Type} {c : Bool} {k : Option α} (h : c = true) : ck c k = k := by rw [h]; rfl
theorem bd_some {α β : Type} {x : Option α} {f : α → Option β} {r : β} (h : x.bind f = some r) : ∃ y, x = some y ∧ f y = some r := by
  cases x with
  | none => cases h
  | some y => exact ⟨y, rfl, h⟩
theorem it_some {β : Type} {c : Bool} {a b : Option β} {r : β} (h : (if c = true then a else b) = some r) : (c = true ∧ a = some r) ∨ (c = false ∧ b = some r) := by
  cases c
  · exact .inr ⟨rfl, h⟩
  · exact .inl ⟨rfl, h⟩
theorem so_some {α : Type} {a b : α} (h : some a = some b) : a = b := Option.some.inj h

theorem or_split {g c : Bool} (h : (!g || c) = true) : (g = true ∧ c = true) ∨ g = false := by cases g <;> cases c <;> simp_all

theorem and_f {a b : Bool} (h : (a && b) = false) : a = false ∨ (a = true ∧ b = false) := by cases a <;> cases b <;> simp_all
theorem and_t {a b : Bool} (h : (a && b) = true) : a = true ∧ b = true := by cases a <;> cases b <;> simp_all
theorem or_t {a b : Bool} (h : (a || b) = true) : a = true ∨ (a = false ∧ b = true) := by cases a <;> cases b <;> simp_all
theorem or_f {a b : Bool} (h : (a || b) = false) : a = false ∧ b = false := by cases a <;> cases b <;> simp_all
theorem and_fr {a b : Bool} (h : (a && b) = false) (ha : a = true) : b = false := by cases a <;> cases b <;> simp_all
theorem and_fl {a b : Bool} (h : (a && b) = false) (hb : b = true) : a = false := by cases a <;> cases b <;> simp_all
theorem or_tr {a b : Bool} (h : (a || b) = true) (ha : a = false) : b = true := by cases a <;> cases b <;> simp_all
theorem or_tl {a b : Bool} (h : (a || b) = true) (hb : b = false) : a = true := by cases a <;> cases b <;> simp_all
theorem no_t {a : Bool} (h : (!a) = true) : a = false := by cases a <;> simp_all
theorem no_f {a : Bool} (h : (!a) = false) : a = true := by cases a <;> simp_all

theorem n1 {b : Bool} : ((!b) = true) = (b = false) := by cases b <;> simp
theorem n2 {b : Bool} : ((!b) = false) = (b = true) := by cases b <;> simp
theorem n3 {a b : Bool} : ((a && b) = true) = (a = true ∧ b = true) := by cases a <;> cases b <;> simp
theorem n4 {a b : Bool} : ((a || b) = false) = (a = false ∧ b = false) := by cases a <;> cases b <;> simp

/-- A slice in a cell. -/
def slE {α : Type} (sz : Nat) (f : α → AV) (xs : List α) : AV := .sl sz (List.map f xs)
attribute [go_sem] slE Option.getD_some

def iterE {σ ρ : Type} (step : σ → Option (σ ⊕ ρ)) : Nat → σ → Option ρ
  | 0, _ => none
  | n + 1, s => match step s with
    | none => none
    | some (.inl s') => iterE step n s'
    | some (.inr r) => some r

open Classical in
/-- The loop: as many rounds as it takes. -/
noncomputable def whileE {σ ρ : Type} (step : σ → Option (σ ⊕ ρ)) (s : σ) : Option ρ :=
  if h : ∃ n, (iterE step n s).isSome = true then iterE step (Classical.choose h) s else none

theorem iterE_mono {σ ρ : Type} {step : σ → Option (σ ⊕ ρ)} {r : ρ} : ∀ {n m : Nat} {s : σ}, n ≤ m → iterE step n s = some r → iterE step m s = some r
  | 0, _, _, _, h => by cases h
  | n + 1, 0, _, hm, _ => by omega
  | n + 1, m + 1, s, hm, h => by
    simp only [iterE] at h ⊢
    cases hs : step s with
    | none => rw [hs] at h; cases h
    | some o =>
      rw [hs] at h
      cases o with
      | inl s' => exact iterE_mono (by omega) h
      | inr r' => exact h

theorem whileE_of {σ ρ : Type} {step : σ → Option (σ ⊕ ρ)} {s : σ} {r : ρ} {n : Nat} (h : iterE step n s = some r) : whileE step s = some r := by
  have hx : ∃ n, (iterE step n s).isSome = true := ⟨n, by rw [h]; rfl⟩
  unfold whileE
  rw [dif_pos hx]
  obtain ⟨r', hr'⟩ := Option.isSome_iff_exists.1 (Classical.choose_spec hx)
  rw [hr']
  rcases Nat.le_total n (Classical.choose hx) with hle | hle
  · rw [iterE_mono hle h] at hr'; exact hr'.symm
  · rw [iterE_mono hle hr'] at h; exact h

theorem whileE_some {σ ρ : Type} {step : σ → Option (σ ⊕ ρ)} {s : σ} {r : ρ} (h : whileE step s = some r) : ∃ n, iterE step n s = some r := by
  unfold whileE at h
  split at h
  · exact ⟨_, h⟩
  · cases h

theorem whileE_eq {σ ρ : Type} (step : σ → Option (σ ⊕ ρ)) (s : σ) : whileE step s = match step s with
    | none => none
    | some (.inl s') => whileE step s'
    | some (.inr r) => some r := by
  apply Option.ext
  intro r
  constructor
  · intro h
    obtain ⟨n, hn⟩ := whileE_some h
    cases n with
    | zero => cases hn
    | succ n =>
      simp only [iterE] at hn
      cases hs : step s with
      | none => rw [hs] at hn; cases hn
      | some o =>
        rw [hs] at hn
        cases o with
        | inl s' => exact whileE_of hn
        | inr r' => exact hn
  · intro h
    cases hs : step s with
    | none => rw [hs] at h; cases h
    | some o =>
      rw [hs] at h
      cases o with
      | inl s' =>
        obtain ⟨n, hn⟩ := whileE_some h
        exact whileE_of (n := n + 1) (by simp only [iterE, hs]; exact hn)
      | inr r' => exact whileE_of (n := 1) (by simp only [iterE, hs]; exact h)

theorem whileE_next {σ ρ : Type} {step : σ → Option (σ ⊕ ρ)} {s s' : σ} (h : step s = some (.inl s')) : whileE step s = whileE step s' := by rw [whileE_eq, h]
theorem whileE_done {σ ρ : Type} {step : σ → Option (σ ⊕ ρ)} {s : σ} {r : ρ} (h : step s = some (.inr r)) : whileE step s = some r := by rw [whileE_eq, h]

/-- A loop that goes through the states f 0, f 1, .., and ends at the m-th. -/
theorem whileE_run {σ ρ : Type} {step : σ → Option (σ ⊕ ρ)} (f : Nat → σ) (m : Nat) {r : ρ} (hs : ∀ i, i < m → step (f i) = some (.inl (f (i + 1)))) (hd : step (f m) = some (.inr r)) : whileE step (f 0) = some r := by
  have : ∀ k, k ≤ m → whileE step (f (m - k)) = some r := by
    intro k
    induction k with
    | zero => intro _; exact whileE_done hd
    | succ k ih =>
      intro hk
      rw [whileE_next (hs (m - (k + 1)) (by omega)), show m - (k + 1) + 1 = m - k by omega]
      exact ih (by omega)
  simpa using this m (Nat.le_refl _)

/-! ### From a loop of the interpreter to one of the typed code -/

theorem loop_ex {σ ρ : Type} {step : σ → Option (σ ⊕ ρ)} {E : σ → St} {R : ρ → Res} {T : Tbl} {b : IR} {kp ot rt : List Bool} (hR : ∀ y, (R y).1 ≠ .norm)
    (hs : ∀ s o, step s = some o → ∃ L0, ∀ L, L0 ≤ L → maskX kp ot rt (exec T L b (E s)) = Sum.elim (fun s' => ((.norm, E s') : Res)) R o)
    {s : σ} {y : ρ} (h : whileE step s = some y) : ∃ L0, ∀ L, L0 ≤ L → iter (exec T L b) kp ot rt L (E s) = R y := by
  obtain ⟨n, hn⟩ := whileE_some h
  have key : ∀ n s, iterE step n s = some y → ∃ L0, ∀ L m, L0 ≤ L → n ≤ m → iter (exec T L b) kp ot rt m (E s) = R y := by
    intro n
    induction n with
    | zero => intro s h; cases h
    | succ n ih =>
      intro s h
      simp only [iterE] at h
      cases ho : step s with
      | none => rw [ho] at h; cases h
      | some o =>
        rw [ho] at h
        obtain ⟨L1, h1⟩ := hs s o ho
        cases o with
        | inl s' =>
          obtain ⟨L2, h2⟩ := ih s' h
          refine ⟨L1 + L2, fun L m hL hm => ?_⟩
          cases m with
          | zero => omega
          | succ m =>
            rw [iter_succ, h1 L (by omega)]
            exact h2 L m (by omega) (by omega)
        | inr r =>
          cases h
          refine ⟨L1, fun L m hL hm => ?_⟩
          cases m with
          | zero => omega
          | succ m =>
            rw [iter_succ, h1 L hL]
            have := hR y
            simp only [Sum.elim_inr]
            revert this
            generalize R y = q
            obtain ⟨e, s'⟩ := q
            cases e
            · intro c; exact absurd rfl c
            · intro _; rfl
            · intro _; rfl
  obtain ⟨L0, h0⟩ := key n s hn
  exact ⟨L0 + n, fun L hL => h0 L L (by omega) (by omega)⟩

/-! ### Contracts -/

theorem flatE_map {α : Type} {f : α → AV} (h : ∀ x, flatE (f x) = true) (xs : List α) : (List.map f xs).all flatE = true := by
  induction xs <;> simp_all

theorem mkN_E {l : List (Nat × Ctr)} {fn : AFn} {modes : List Md} {args : List AV} {r : AV} {outs : List AV} (h : ∃ L0, ∀ L, L0 ≤ L → runF (look l) L fn modes args = ⟨true, r, outs⟩) : (mkN l fn modes).F args = ⟨true, r, outs⟩ := by
  obtain ⟨L, h⟩ := h
  exact mkN_F L (h L (Nat.le_refl _))
theorem mkF_E {l : List (Nat × Ctr)} {fn : AFn} {modes : List Md} {args : List AV} {r : AV} {outs : List AV} (hf : flatA r = true) (h : ∃ L0, ∀ L, L0 ≤ L → runF (look l) L fn modes args = ⟨true, r, outs⟩) : (mkF l fn modes).F args = ⟨true, r, outs⟩ := by
  obtain ⟨L, h⟩ := h
  exact mkF_F L (h L (Nat.le_refl _)) hf

open Classical in
/-- A contract that speaks of typed arguments alone. -/
noncomputable def tyC {X Y : Type} [Inhabited Y] (c : Ctr) (ea : X → List AV) (g : X → Option Y) (er : Y → AV) (eo : X → Y → List AV) : Ctr :=
  ⟨c.modes, c.flat, fun args => if h : ∃ x, ea x = args then ⟨(g (Classical.choose h)).isSome, er ((g (Classical.choose h)).getD default), eo (Classical.choose h) ((g (Classical.choose h)).getD default)⟩ else Rs.bad⟩

theorem tyC_F {X Y : Type} [Inhabited Y] {c : Ctr} {ea : X → List AV} {g : X → Option Y} {er : Y → AV} {eo : X → Y → List AV} (hi : ∀ x y, ea x = ea y → x = y) (x : X) :
    (tyC c ea g er eo).F (ea x) = ⟨(g x).isSome, er ((g x).getD default), eo x ((g x).getD default)⟩ := by
  have hx : ∃ x', ea x' = ea x := ⟨x, rfl⟩
  have e : Classical.choose hx = x := hi _ _ (Classical.choose_spec hx)
  simp only [tyC]
  rw [dif_pos hx, e]

theorem tyC_sound {X Y : Type} [Inhabited Y] {P : Program} {f : FuncId} {c : Ctr} {ea : X → List AV} {g : X → Option Y} {er : Y → AV} {eo : X → Y → List AV} (hc : Sound P f c)
    (h : ∀ x y, g x = some y → c.F (ea x) = ⟨true, er y, eo x y⟩) : Sound P f (tyC c ea g er eo) := by
  unfold Sound at hc ⊢
  refine ⟨hc.1, fun F g0 w args vargs hsh hsz hfr hok => ?_⟩
  have hcF : (tyC c ea g er eo).F args = c.F args := by
    simp only [tyC] at hok ⊢
    by_cases hx : ∃ x, ea x = args
    · rw [dif_pos hx] at hok ⊢
      obtain ⟨y, hy⟩ := Option.isSome_iff_exists.1 hok
      have h2 := h (Classical.choose hx) y hy
      rw [Classical.choose_spec hx] at h2
      rw [h2, hy]; rfl
    · rw [dif_neg hx] at hok; simp [Rs.bad] at hok
  rw [hcF] at hok ⊢
  exact hc.2 F g0 w args vargs hsh hsz hfr hok

/-! ### Bytes, lists -/

def toU8 (n : Int) : UInt8 := UInt8.ofNat n.toNat

theorem wrap_i64 {n : Int} (h1 : -9223372036854775808 ≤ n) (h2 : n ≤ 9223372036854775807) : IntKind.i64.wrap n = n := by
  unfold IntKind.wrap IntKind.bits; simp [IntKind.signed]; omega
theorem wrap_u8_lo (e : Int) : 0 ≤ IntKind.u8.wrap e := by
  unfold IntKind.wrap IntKind.bits; simp [IntKind.signed]; omega
theorem wrap_u8_hi (e : Int) : IntKind.u8.wrap e < 256 := by
  unfold IntKind.wrap IntKind.bits; simp [IntKind.signed]; omega
theorem wrap_u8 {n : Int} (h1 : 0 ≤ n) (h2 : n < 256) : IntKind.u8.wrap n = n := by
  unfold IntKind.wrap IntKind.bits; simp [IntKind.signed]; omega
theorem u8_lt (c : UInt8) : (c.toNat : Int) < 256 := by have := c.toNat_lt; omega
theorem toU8_wrap (e : Int) : (((UInt8.ofNat (IntKind.u8.wrap e).toNat).toNat : Nat) : Int) = IntKind.u8.wrap e := by
  have h1 := wrap_u8_lo e
  have h2 := wrap_u8_hi e
  rw [UInt8.toNat_ofNat']
  omega
theorem conv_u8 (c : UInt8) : IntKind.i64.wrap (c.toNat : Int) = (c.toNat : Int) := wrap_i64 (by omega) (by have := u8_lt c; omega)
theorem isByte_map (xs : List UInt8) : (xs.map byteAV).all isByte = true := by induction xs <;> simp_all [byteAV, isByte]
theorem isByte_take (b : Nat) (xs : List UInt8) : (List.take b (xs.map byteAV)).all isByte = true := by rw [← List.map_take]; exact isByte_map _
theorem isByte_drop (a : Nat) (xs : List UInt8) : (List.drop a (xs.map byteAV)).all isByte = true := by rw [← List.map_drop]; exact isByte_map _
theorem isByte_dt (a b : Nat) (xs : List UInt8) : (List.drop a (List.take b (xs.map byteAV))).all isByte = true := by rw [← List.map_take, ← List.map_drop]; exact isByte_map _
theorem byteOf_map (xs : List UInt8) : (xs.map byteAV).map byteOf = xs := by
  induction xs with
  | nil => rfl
  | cons a r ih => simp only [List.map_cons, ih, byteAV, byteOf, Int.toNat_natCast, UInt8.ofNat_toNat]

theorem getD_mapD {α : Type} [Inhabited α] (f : α → AV) (xs : List α) {i : Nat} (h : i < xs.length) : (xs.map f).getD i .any = f (xs.getD i default) := getD_mapL f xs default h
theorem ix_lt {n : Int} {m : Nat} (h : ixOk n m = true) : n.toNat < m := by
  simp only [ixOk, Bool.and_eq_true, decide_eq_true_eq] at h; omega

theorem mixA_f (x : AV) (q : Bool) : mixA false x (.bool q) = .bool q := by cases x <;> rfl
theorem mixA_t (y : AV) (p : Bool) : mixA true (.bool p) y = .bool p := by cases y <;> rfl

theorem getD_setS {α : Type} {xs : List α} {i : Nat} {x d : α} (h : i < xs.length) : (xs.set i x).getD i d = x := by
  rw [List.getD_eq_getElem?_getD, List.getElem?_set_self h]; rfl
attribute [go_sem] getD_setS List.set_set Int.toNat_natCast UInt8.ofNat_toNat toU8 toU8_wrap conv_u8 isByte_map isByte_take isByte_drop isByte_dt byteOf_map List.map_append List.map_set List.map_take List.map_drop List.all_append Sum.elim_inl Sum.elim_inr mixA_f mixA_t St.mk.injEq Prod.mk.injEq List.map_replicate UInt8.reduceToNat Int.cast_ofNat_Int Bool.or_not_self Bool.not_or_self

end Go.Proofs.YtbobhejdijcofaaGreatDoor
