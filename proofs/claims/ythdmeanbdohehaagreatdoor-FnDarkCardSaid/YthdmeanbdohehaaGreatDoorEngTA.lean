/- Typed forms of functions: what their proofs share. No condition. -/
import Derived.Test.YthdmeanbdohehaaGreatDoorEngZ
import Derived.Test.YthdmeanbdohehaaGreatDoorEngB
namespace Go.Proofs.YthdmeanbdohehaaGreatDoor
open Go Go.RowKit
set_option linter.unusedSimpArgs false
set_option linter.unusedVariables false
def PM (k n : Nat) : Hx := ⟨.push, k, none, .mov (.v n)⟩
def VS (n k i : Nat) : Hx := ⟨.var n, k, none, .mov (.s i)⟩
def PO (k : Nat) (a : GO) : Hx := ⟨.push, k, none, a⟩
def VO (n k : Nat) (a : GO) : Hx := ⟨.var n, k, none, a⟩
def SO (n k : Nat) (a : GO) : Hx := ⟨.slot n, k, none, a⟩
def I6 (n : Int) : CA := .c (.int .i64 n)
attribute [go_sem] PM VS PO VO SO I6
def ck {α : Type} (c : Bool) (k : Option α) : Option α := if c = true then k else none
theorem AD {α : Type} {c : Bool} {k : Option α} {r : α} (h : ck c k = some r) : c = true ∧ k = some r := by
 unfold ck at h; split at h
 ·exact ⟨by assumption, h⟩
 ·cases h
theorem AN {α : Type} (k : Option α) : ck true k = k := id rfl
theorem kj {α : Type} {c : Bool} {k : Option α} (h : c = true) : ck c k = k := by rw [h]; rfl
theorem AE {α β : Type} {x : Option α} {f : α → Option β} {r : β} (h : x.bind f = some r) : ∃ y, x = some y ∧ f y = some r := by
 cases x with
 | none => cases h
 | some y => exact ⟨y, rfl, h⟩
theorem AF {β : Type} {c : Bool} {a b : Option β} {r : β} (h : (if c = true then a else b) = some r) : (c = true ∧ a = some r) ∨ (c = false ∧ b = some r) := by
 cases c
 ·exact .inr ⟨rfl, h⟩
 ·exact .inl ⟨rfl, h⟩
theorem AC {α : Type} {a b : α} (h : some a = some b) : a = b := Option.some.inj h
theorem Ay {g c : Bool} (h : (!g || c) = true) : (g = true ∧ c = true) ∨ g = false := by cases g <;> cases c <;> simp_all
theorem Ud {a b : Bool} (h : (a && b) = false) : a = false ∨ (a = true ∧ b = false) := by cases a <;> cases b <;> simp_all
theorem and_t {a b : Bool} (h : (a && b) = true) : a = true ∧ b = true := by cases a <;> cases b <;> simp_all
theorem JA {a b : Bool} (h : (a || b) = true) : a = true ∨ (a = false ∧ b = true) := by cases a <;> cases b <;> simp_all
theorem Dh {a b : Bool} (h : (a || b) = false) : a = false ∧ b = false := by cases a <;> cases b <;> simp_all
theorem and_fr {a b : Bool} (h : (a && b) = false) (ha : a = true) : b = false := by cases a <;> cases b <;> simp_all
theorem and_fl {a b : Bool} (h : (a && b) = false) (hb : b = true) : a = false := by cases a <;> cases b <;> simp_all
theorem or_tr {a b : Bool} (h : (a || b) = true) (ha : a = false) : b = true := by cases a <;> cases b <;> simp_all
theorem or_tl {a b : Bool} (h : (a || b) = true) (hb : b = false) : a = true := by cases a <;> cases b <;> simp_all
theorem Fj {a : Bool} (h : (!a) = true) : a = false := by cases a <;> simp_all
theorem BH {a : Bool} (h : (!a) = false) : a = true := by cases a <;> simp_all
theorem n1 {b : Bool} : ((!b) = true) = (b = false) := by cases b <;> simp
theorem n2 {b : Bool} : ((!b) = false) = (b = true) := by cases b <;> simp
theorem n3 {a b : Bool} : ((a && b) = true) = (a = true ∧ b = true) := by cases a <;> cases b <;> simp
theorem n4 {a b : Bool} : ((a || b) = false) = (a = false ∧ b = false) := by cases a <;> cases b <;> simp
def slE {α : Type} (sz : Nat) (f : α → AV) (xs : List α) : AV := .sl sz (List.map f xs)
attribute [go_sem] slE Option.getD_some
def Ge {σ ρ : Type} (step : σ → Option (σ ⊕ ρ)) : Nat → σ → Option ρ
 | 0, _ => none
 | n + 1, s => match step s with
  | none => none
  | some (.inl s') => Ge step n s'
  | some (.inr r) => some r
open Classical in
noncomputable def AJ {σ ρ : Type} (step : σ → Option (σ ⊕ ρ)) (s : σ) : Option ρ :=
 if h : ∃ n, (Ge step n s).isSome = true then Ge step (Classical.choose h) s else none
theorem MW {σ ρ : Type} {step : σ → Option (σ ⊕ ρ)} {r : ρ} : ∀ {n m : Nat} {s : σ}, n ≤ m → Ge step n s = some r → Ge step m s = some r
 | 0, _, _, _, h => by cases h
 | n + 1, 0, _, hm, _ => by omega
 | n + 1, m + 1, s, hm, h => by
  simp only [Ge] at h ⊢
  cases hs : step s with
  | none => rw [hs] at h; cases h
  | some o =>
   rw [hs] at h
   cases o with
   | inl s' => exact MW (by omega) h
   | inr r' => exact h
theorem Hz {σ ρ : Type} {step : σ → Option (σ ⊕ ρ)} {s : σ} {r : ρ} {n : Nat} (h : Ge step n s = some r) : AJ step s = some r := by
 have hx : ∃ n, (Ge step n s).isSome = true := ⟨n, by rw [h]; rfl⟩
 unfold AJ
 rw [dif_pos hx]
 obtain ⟨r', hr'⟩ := Option.isSome_iff_exists.1 (Classical.choose_spec hx)
 rw [hr']
 rcases Nat.le_total n (Classical.choose hx) with hle | hle
 ·rw [MW hle h] at hr'; exact hr'.symm
 ·rw [MW hle hr'] at h; exact h
theorem Ga {σ ρ : Type} {step : σ → Option (σ ⊕ ρ)} {s : σ} {r : ρ} (h : AJ step s = some r) : ∃ n, Ge step n s = some r := by
 unfold AJ at h
 split at h
 ·exact ⟨_, h⟩
 ·cases h
theorem Uy {σ ρ : Type} (step : σ → Option (σ ⊕ ρ)) (s : σ) : AJ step s = match step s with
  | none => none
  | some (.inl s') => AJ step s'
  | some (.inr r) => some r := by
 apply Option.ext
 intro r
 constructor
 ·intro h
  obtain ⟨n, hn⟩ := Ga h
  cases n with
  | zero => cases hn
  | succ n =>
   simp only [Ge] at hn
   cases hs : step s with
   | none => rw [hs] at hn; cases hn
   | some o =>
    rw [hs] at hn
    cases o with
    | inl s' => exact Hz hn
    | inr r' => exact hn
 ·intro h
  cases hs : step s with
  | none => rw [hs] at h; cases h
  | some o =>
   rw [hs] at h
   cases o with
   | inl s' =>
    obtain ⟨n, hn⟩ := Ga h
    exact Hz (n := n + 1) (by simp only [Ge, hs]; exact hn)
   | inr r' => exact Hz (n := 1) (by simp only [Ge, hs]; exact h)
theorem Ah {σ ρ : Type} {step : σ → Option (σ ⊕ ρ)} {s s' : σ} (h : step s = some (.inl s')) : AJ step s = AJ step s' := by rw [Uy, h]
theorem Ae {σ ρ : Type} {step : σ → Option (σ ⊕ ρ)} {s : σ} {r : ρ} (h : step s = some (.inr r)) : AJ step s = some r := by rw [Uy, h]
theorem MC {σ ρ : Type} {step : σ → Option (σ ⊕ ρ)} (f : Nat → σ) (m : Nat) {r : ρ} (hs : ∀ i, i < m → step (f i) = some (.inl (f (i + 1)))) (hd : step (f m) = some (.inr r)) : AJ step (f 0) = some r := by
 have : ∀ k, k ≤ m → AJ step (f (m - k)) = some r := by
  intro k
  induction k with
  | zero => intro _; exact Ae hd
  | succ k ih =>
   intro hk
   rw [Ah (hs (m - (k + 1)) (by omega)), show m - (k + 1) + 1 = m - k by omega]
   exact ih (by omega)
 simpa using this m (Nat.le_refl _)
theorem BJ {σ ρ : Type} {step : σ → Option (σ ⊕ ρ)} {E : σ → St} {R : ρ → FT} {T : GW} {b : IR} {kp ot rt : List Bool} (hR : ∀ y, (R y).1 ≠ .norm)
  (hs : ∀ s o, step s = some o → ∃ L0, ∀ L, L0 ≤ L → GL kp ot rt (BD T L b (E s)) = Sum.elim (fun s' => ((.norm, E s') : FT)) R o)
  {s : σ} {y : ρ} (h : AJ step s = some y) : ∃ L0, ∀ L, L0 ≤ L → Cg (BD T L b) kp ot rt L (E s) = R y := by
 obtain ⟨n, hn⟩ := Ga h
 have key : ∀ n s, Ge step n s = some y → ∃ L0, ∀ L m, L0 ≤ L → n ≤ m → Cg (BD T L b) kp ot rt m (E s) = R y := by
  intro n
  induction n with
  | zero => intro s h; cases h
  | succ n ih =>
   intro s h
   simp only [Ge] at h
   cases ho : step s with
   | none => rw [ho] at h; cases h
   | some o =>
    rw [ho] at h
    obtain ⟨L1, h1⟩ := hs s o ho
    cases o with
    | inl s' =>
     obtain ⟨L2, h2⟩ := ih s' h
     refine ⟨L1 + L2, fun L m hL hm => ?_⟩
     cases m with
     | zero => omega
     | succ m =>
      rw [VU, h1 L (by omega)]
      exact h2 L m (by omega) (by omega)
    | inr r =>
     cases h
     refine ⟨L1, fun L m hL hm => ?_⟩
     cases m with
     | zero => omega
     | succ m =>
      rw [VU, h1 L hL]
      have := hR y
      simp only [Sum.elim_inr]
      revert this
      generalize R y = q
      obtain ⟨e, s'⟩ := q
      cases e
      ·intro c; exact absurd rfl c
      ·intro _; rfl
      ·intro _; rfl
 obtain ⟨L0, h0⟩ := key n s hn
 exact ⟨L0 + n, fun L hL => h0 L L (by omega) (by omega)⟩
theorem Bo {α : Type} {f : α → AV} (h : ∀ x, bf (f x) = true) (xs : List α) : (List.map f xs).all bf = true := by
 induction xs <;> simp_all
theorem Ho {l : List (Nat × Bf)} {fn : EL} {modes : List Md} {args : List AV} {r : AV} {outs : List AV} (h : ∃ L0, ∀ L, L0 ≤ L → Iy (Aa l) L fn modes args = ⟨true, r, outs⟩) : (VP l fn modes).F args = ⟨true, r, outs⟩ := by
 obtain ⟨L, h⟩ := h
 exact uI L (h L (Nat.le_refl _))
theorem Br {l : List (Nat × Bf)} {fn : EL} {modes : List Md} {args : List AV} {r : AV} {outs : List AV} (hf : EA r = true) (h : ∃ L0, ∀ L, L0 ≤ L → Iy (Aa l) L fn modes args = ⟨true, r, outs⟩) : (Gd l fn modes).F args = ⟨true, r, outs⟩ := by
 obtain ⟨L, h⟩ := h
 exact uJ L (h L (Nat.le_refl _)) hf
open Classical in
noncomputable def tP {X Y : Type} [Inhabited Y] (c : Bf) (ea : X → List AV) (g : X → Option Y) (er : Y → AV) (eo : X → Y → List AV) : Bf :=
 ⟨c.modes, c.flat, fun args => if h : ∃ x, ea x = args then ⟨(g (Classical.choose h)).isSome, er ((g (Classical.choose h)).getD default), eo (Classical.choose h) ((g (Classical.choose h)).getD default)⟩ else Rs.bad⟩
theorem tyC_F {X Y : Type} [Inhabited Y] {c : Bf} {ea : X → List AV} {g : X → Option Y} {er : Y → AV} {eo : X → Y → List AV} (hi : ∀ x y, ea x = ea y → x = y) (x : X) :
  (tP c ea g er eo).F (ea x) = ⟨(g x).isSome, er ((g x).getD default), eo x ((g x).getD default)⟩ := by
 have hx : ∃ x', ea x' = ea x := ⟨x, rfl⟩
 have e : Classical.choose hx = x := hi _ _ (Classical.choose_spec hx)
 simp only [tP]
 rw [dif_pos hx, e]
theorem se {X Y : Type} [Inhabited Y] {P : Program} {f : FuncId} {c : Bf} {ea : X → List AV} {g : X → Option Y} {er : Y → AV} {eo : X → Y → List AV} (hc : Ad P f c)
  (h : ∀ x y, g x = some y → c.F (ea x) = ⟨true, er y, eo x y⟩) : Ad P f (tP c ea g er eo) := by
 unfold Ad at hc ⊢
 refine ⟨hc.1, fun F g0 w args vargs hsh hsz hfr hok => ?_⟩
 have hcF : (tP c ea g er eo).F args = c.F args := by
  simp only [tP] at hok ⊢
  by_cases hx : ∃ x, ea x = args
  ·rw [dif_pos hx] at hok ⊢
   obtain ⟨y, hy⟩ := Option.isSome_iff_exists.1 hok
   have h2 := h (Classical.choose hx) y hy
   rw [Classical.choose_spec hx] at h2
   rw [h2, hy]; rfl
  ·rw [dif_neg hx] at hok; simp [Rs.bad] at hok
 rw [hcF] at hok ⊢
 exact hc.2 F g0 w args vargs hsh hsz hfr hok
def cE (n : Int) : UInt8 := UInt8.ofNat n.toNat
theorem AX {n : Int} (h1 : -9223372036854775808 ≤ n) (h2 : n ≤ 9223372036854775807) : IntKind.i64.wrap n = n := by
 unfold IntKind.wrap IntKind.bits; simp [IntKind.signed]; omega
theorem ZX (e : Int) : 0 ≤ IntKind.u8.wrap e := by
 unfold IntKind.wrap IntKind.bits; simp [IntKind.signed]; omega
theorem ZY (e : Int) : IntKind.u8.wrap e < 256 := by
 unfold IntKind.wrap IntKind.bits; simp [IntKind.signed]; omega
theorem au {n : Int} (h1 : 0 ≤ n) (h2 : n < 256) : IntKind.u8.wrap n = n := by
 unfold IntKind.wrap IntKind.bits; simp [IntKind.signed]; omega
theorem oB (c : UInt8) : (c.toNat : Int) < 256 := by have := c.toNat_lt; omega
theorem cD (e : Int) : (((UInt8.ofNat (IntKind.u8.wrap e).toNat).toNat : Nat) : Int) = IntKind.u8.wrap e := by
 have h1 := ZX e
 have h2 := ZY e
 rw [UInt8.toNat_ofNat']
 omega
theorem nd (c : UInt8) : IntKind.i64.wrap (c.toNat : Int) = (c.toNat : Int) := AX (by omega) (by have := oB c; omega)
theorem KC (xs : List UInt8) : (xs.map Cc).all FD = true := by induction xs <;> simp_all [Cc, FD]
theorem Ya (b : Nat) (xs : List UInt8) : (List.take b (xs.map Cc)).all FD = true := by rw [← List.map_take]; exact KC _
theorem Yb (a : Nat) (xs : List UInt8) : (List.drop a (xs.map Cc)).all FD = true := by rw [← List.map_drop]; exact KC _
theorem dF (a b : Nat) (xs : List UInt8) : (List.drop a (List.take b (xs.map Cc))).all FD = true := by rw [← List.map_take, ← List.map_drop]; exact KC _
theorem ab (xs : List UInt8) : (xs.map Cc).map KQ = xs := by
 induction xs with
 | nil => rfl
 | cons a r ih => simp only [List.map_cons, ih, Cc, KQ, Int.toNat_natCast, UInt8.ofNat_toNat]
theorem AR {α : Type} [Inhabited α] (f : α → AV) (xs : List α) {i : Nat} (h : i < xs.length) : (xs.map f).getD i .any = f (xs.getD i default) := dQ f xs default h
theorem BT {n : Int} {m : Nat} (h : BB n m = true) : n.toNat < m := by
 simp only [BB, Bool.and_eq_true, decide_eq_true_eq] at h; omega
theorem pj (x : AV) (q : Bool) : Ta false x (.bool q) = .bool q := by cases x <;> rfl
theorem pi (y : AV) (p : Bool) : Ta true (.bool p) y = .bool p := by cases y <;> rfl
theorem dP {α : Type} {xs : List α} {i : Nat} {x d : α} (h : i < xs.length) : (xs.set i x).getD i d = x := by
 rw [List.getD_eq_getElem?_getD, List.getElem?_set_self h]; rfl
attribute [go_sem] dP List.set_set Int.toNat_natCast UInt8.ofNat_toNat cE cD nd KC Ya Yb dF ab List.map_append List.map_set List.map_take List.map_drop List.all_append Sum.elim_inl Sum.elim_inr pj pi St.mk.injEq Prod.mk.injEq List.map_replicate UInt8.reduceToNat Int.cast_ofNat_Int Bool.or_not_self Bool.not_or_self
end Go.Proofs.YthdmeanbdohehaaGreatDoor
