/- What is asked of a function: its contract holds. The arguments of a call. No condition. -/
import Derived.Test.YtgbopjgnggdhkaaEngM
namespace Go.Proofs.Ytgbopjgnggdhkaa
open Go Go.RowKit
set_option linter.unusedSimpArgs false
set_option linter.unusedVariables false

def argSt (args : List AV) : St := { vs := initTm 0 args, st := [], ob := initOb 0 args, ok := true }

/-- A part of a result: a block goes over under its key k. -/
def RV1 (S : Nat → Prop) (w : World) (g : Gh) (ob : Obs) (k : Nat) (v : Value) : AV → Prop
  | .fresh sz els => obGet k ob = some ⟨sz, els⟩ ∧ (v = .slice (some ⟨g.β k, 0, none⟩) els.length (g.cap k) ∨ (g.cap k = 0 ∧ v = .slice none 0 0))
  | .mem sz els => obGet k ob = some ⟨sz, els⟩ ∧ (els.length = 1 ∧ v = .pointer (some ⟨g.β k, 0, none⟩))
  | a => VR S w v a

def RV (S : Nat → Prop) (w : World) (g : Gh) (ob : Obs) (κ : Nat → Nat) (v : Value) : AV → Prop
  | .tup as => ∃ vs, v = .tuple vs ∧ vs.size = as.length ∧ ∀ j, j < as.length → RV1 S w g ob (κ (j + 1)) (vs.getD j undef) (as.getD j .any)
  | a => RV1 S w g ob (κ 0) v a

def isFr : AV → Bool
  | .fresh _ _ => true
  | .mem _ _ => true
  | _ => false

/-- The places in a result that hold a block. -/
def fpos (r : AV) (i : Nat) : Prop :=
  match r with
  | .tup as => ∃ j, i = j + 1 ∧ j < as.length ∧ isFr (as.getD j .any) = true
  | a => i = 0 ∧ isFr a = true

/-- Scalars alone. -/
def flat1 : AV → Bool
  | .int _ _ => true
  | .bool _ => true
  | .str _ => true
  | _ => false

def flatE (a : AV) : Bool := a.cells.all flat1

def flatB : AV → Bool
  | .fresh _ els => els.all flatE
  | .mem _ els => els.all flatE
  | a => flat1 a

def flatA : AV → Bool
  | .tup as => as.all flatB
  | a => flatB a

/-- Behind a call: what the value is, and where the blocks lie. -/
structure Back (F : Nat → Prop) (g0 : Gh) (args : List AV) (modes : List Md) (w : World) (v : Value) (w' : World) (r : AV) (outs : List AV) (g : Gh) (ob : Obs) (κ : Nat → Nat) : Prop where
  same : Same (fun b => ∃ k, liv g0 (initOb 0 args) k ∧ g0.β k = b) w w'
  home : ∀ k h, obGet k ob = some h → Home (SetOf F g ob) w' (g.β k) (g.cap k) h.sz h.els
  inj : ∀ k k', liv g ob k → liv g ob k' → g.β k = g.β k' → k = k'
  nF : ∀ k, liv g ob k → ¬ F (g.β k)
  hio : ∀ k, liv g ob k → w.heap.size ≤ g.β k ∨ ∃ k', liv g0 (initOb 0 args) k' ∧ g0.β k' = g.β k
  val : RV (SetOf F g ob) w' g ob κ v r
  κinj : ∀ i j, fpos r i → fpos r j → κ i = κ j → i = j
  κio : ∀ i j, fpos r i → modes[j]? = some .io → κ i ≠ paramKey j
  out : ∀ j, modes[j]? = some .io → ∃ sz e0 els, ((args.getD j .any = .fresh sz e0 ∧ outs.getD j .any = .fresh sz els) ∨ (args.getD j .any = .mem sz e0 ∧ outs.getD j .any = .mem sz els)) ∧
    els.length = e0.length ∧ obGet (paramKey j) ob = some ⟨sz, els⟩ ∧ g.β (paramKey j) = g0.β (paramKey j) ∧ g.cap (paramKey j) = g0.cap (paramKey j)

/-- A function is called, or an entry of the model stands for it. -/
def Invokes (P : Program) (f : FuncId) (args : Array Value) (w : World) (R : Ending → World → Prop) : Prop :=
  match (callFunc f args).run P w with
  | .ok (.value v) w' => R (.returned v) w'
  | .ok (.enter f' args') w' => Calls P f' args' w' R
  | _ => False

def noIo (ms : List Md) : Bool := ms.all fun m => !(m == .io)

def Sound (P : Program) (f : FuncId) (C : Ctr) : Prop :=
  (C.flat = true → noIo C.modes = true) ∧
  ∀ (F : Nat → Prop) (g0 : Gh) (w : World) (args : List AV) (vargs : Array Value), shapes C.modes args = true → vargs.size = args.length →
    FR F g0 w vargs (List.range args.length) [] (argSt args) → (C.F args).ok = true →
    (C.flat = true → flatA (C.F args).r = true) ∧
    Invokes P f vargs w fun e w' => ∃ v g ob κ, e = .returned v ∧ Back F g0 args C.modes w v w' (C.F args).r (C.F args).outs g ob κ

theorem flat1_VR {S S' : Nat → Prop} {w w' : World} {v : Value} {a : AV} (hf : flat1 a = true) (h : VR S w v a) : VR S' w' v a := by
  cases a <;> simp [flat1] at hf <;> cases h <;> constructor

/-! ### The blocks of the arguments -/

def fmHm : AV → Option Hm
  | .fresh sz els => some ⟨sz, els⟩
  | .mem sz els => some ⟨sz, els⟩
  | _ => none

theorem paramKey_inj {i j : Nat} (h : paramKey i = paramKey j) : i = j := by unfold paramKey at h; omega

theorem initOb_get (k : Nat) : ∀ (args : List AV) (i : Nat), obGet k (initOb i args) = if k % 32 = 31 ∧ i ≤ k / 32 then fmHm (args.getD (k / 32 - i) .any) else none
  | [], i => by simp [initOb, obGet, fmHm]
  | a :: r, i => by
    have ih := initOb_get k r (i + 1)
    have step : ∀ h : Hm, obGet k ((paramKey i, h) :: initOb (i + 1) r) = if k % 32 = 31 ∧ i ≤ k / 32 then (if k / 32 = i then some h else fmHm ((a :: r).getD (k / 32 - i) .any)) else none := by
      intro h
      simp only [obGet, cond_eq_if, beq_iff_eq, ih]
      by_cases e : paramKey i = k
      · subst e
        have h1 : (32 * i + 31) % 32 = 31 := by omega
        have h2 : (32 * i + 31) / 32 = i := by omega
        simp [paramKey, h1, h2]
      · rw [if_neg e]
        by_cases e1 : k % 32 = 31
        · have hne : k / 32 ≠ i := fun e2 => e (by unfold paramKey; omega)
          by_cases e3 : i ≤ k / 32
          · rw [if_pos ⟨e1, by omega⟩, if_pos ⟨e1, e3⟩, if_neg hne, show k / 32 - i = (k / 32 - (i + 1)) + 1 by omega, List.getD_cons_succ]
          · rw [if_neg (by omega), if_neg (by omega)]
        · rw [if_neg (by omega), if_neg (by omega)]
    have skip : fmHm a = none → obGet k (initOb (i + 1) r) = if k % 32 = 31 ∧ i ≤ k / 32 then fmHm ((a :: r).getD (k / 32 - i) .any) else none := by
      intro h0
      rw [ih]
      by_cases e1 : k % 32 = 31
      · by_cases e3 : i ≤ k / 32
        · by_cases e4 : k / 32 = i
          · rw [if_neg (by omega), if_pos ⟨e1, e3⟩, e4, Nat.sub_self, List.getD_cons_zero, h0]
          · rw [if_pos ⟨e1, by omega⟩, if_pos ⟨e1, e3⟩, show k / 32 - i = (k / 32 - (i + 1)) + 1 by omega, List.getD_cons_succ]
        · rw [if_neg (by omega), if_neg (by omega)]
      · rw [if_neg (by omega), if_neg (by omega)]
    have fin : ∀ sz els, fmHm a = some ⟨sz, els⟩ → obGet k ((paramKey i, ⟨sz, els⟩) :: initOb (i + 1) r) = if k % 32 = 31 ∧ i ≤ k / 32 then fmHm ((a :: r).getD (k / 32 - i) .any) else none := by
      intro sz els h0
      rw [step]
      by_cases e : k % 32 = 31 ∧ i ≤ k / 32
      · rw [if_pos e, if_pos e]
        by_cases e4 : k / 32 = i
        · rw [if_pos e4, e4, Nat.sub_self, List.getD_cons_zero, h0]
        · rw [if_neg e4]
      · rw [if_neg e, if_neg e]
    cases a
    case fresh sz els => exact fin sz els rfl
    case mem sz els => exact fin sz els rfl
    all_goals exact skip rfl

theorem initOb_paramKey {args : List AV} {j : Nat} : obGet (paramKey j) (initOb 0 args) = fmHm (args.getD j .any) := by
  rw [initOb_get, if_pos (by unfold paramKey; omega)]
  congr 2
  unfold paramKey; omega

theorem initOb_key {args : List AV} {k : Nat} {h : Hm} (hg : obGet k (initOb 0 args) = some h) : ∃ j, k = paramKey j ∧ fmHm (args.getD j .any) = some h := by
  rw [initOb_get] at hg
  split at hg
  · rename_i e; exact ⟨k / 32, by unfold paramKey; omega, by simpa using hg⟩
  · cases hg

def initA (j : Nat) : AV → AV
  | .fresh _ _ => .own (paramKey j)
  | .mem _ _ => .ref (paramKey j) 0 0
  | a => a

theorem initTm_get : ∀ (args : List AV) (i j : Nat), j < args.length → (initTm i args).getD j .any = initA (i + j) (args.getD j .any)
  | [], _, _, h => by simp at h
  | a :: r, i, 0, _ => by cases a <;> rfl
  | a :: r, i, j + 1, h => by
    have ih := initTm_get r (i + 1) j (by simpa using h)
    rw [show i + (j + 1) = i + 1 + j by omega, List.getD_cons_succ, ← ih]
    cases a <;> rfl

theorem initTm_len : ∀ (args : List AV) (i : Nat), (initTm i args).length = args.length
  | [], _ => rfl
  | a :: r, i => by
    have ih := initTm_len r (i + 1)
    cases a <;> simp [initTm, ih]

end Go.Proofs.Ytgbopjgnggdhkaa
