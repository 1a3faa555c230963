/- Operations that write nothing that was there: what the code gives is what the interpreter says. No condition. -/
import Derived.Test.YtgbopjgnggdhkaaEngD
namespace Go.Proofs.Ytgbopjgnggdhkaa
open Go Go.RowKit
set_option linter.unusedSimpArgs false
set_option linter.unusedVariables false

def vInt (k : IntKind) (n : Int) : Value → Bool
  | .int j m => j == k && m == n
  | _ => false
def vBool (b : Bool) : Value → Bool
  | .bool a => a == b
  | _ => false
def vStr (l : List UInt8) : Value → Bool
  | .string s => s.data.toList == l
  | _ => false
def vNil : Value → Bool
  | .slice a l c => a.isNone && (l == 0 && c == 0)
  | _ => false
/-- The constants that are kept as they are. -/
def vPlain : Value → Nat
  | .pointer none => 1
  | .nilFunc => 2
  | .nilIface => 3
  | .tuple vs => if vs.size = 0 then 4 else 0
  | _ => 0

/-- A constant of one cell, as the interpreter has it. -/
def eqa (v : Value) : AV → Bool
  | .int k n => vInt k n v
  | .bool b => vBool b v
  | .str l => vStr l v
  | .nilsl => vNil v
  | .sl sz els => vNil v && (els.isEmpty && decide (1 ≤ sz))
  | .cv u => vPlain v == vPlain u && !(vPlain v == 0)
  | .any => true
  | _ => false

def eqas : List Value → List AV → Bool
  | [], [] => true
  | v :: vs, a :: as => eqa v a && (a.atom && eqas vs as)
  | _, _ => false

def vCells : Value → List Value
  | .agg cs => cs.toList
  | v => [v]
def vAgg : Value → Bool
  | .agg _ => true
  | _ => false

def eqv (v : Value) : AV → Bool
  | .agg as => vAgg v && eqas (vCells v) as
  | .int k n => eqa v (.int k n)
  | .bool b => eqa v (.bool b)
  | .str l => eqa v (.str l)
  | .nilsl => eqa v .nilsl
  | .sl sz els => eqa v (.sl sz els)
  | .cv u => eqa v (.cv u)
  | .any => true
  | _ => false

def chkSrc (vm ss : List Nat) : Operand → Src → Bool
  | .tmp t, .v n => vm[n]? == some t
  | .tmp t, .s n => ss[n]? == some t
  | .const v, .c a => eqv v a
  | .func f, .c (.fn (.func g) [] []) => f == g
  | _, _ => false

theorem eqas_len : ∀ (vs : List Value) (as : List AV), eqas vs as = true → vs.length = as.length
  | [], [], _ => rfl
  | [], _ :: _, h => by simp [eqas] at h
  | _ :: _, [], h => by simp [eqas] at h
  | v :: vs, a :: as, h => by
    simp only [eqas, Bool.and_eq_true] at h
    simp [eqas_len vs as h.2.2]

theorem eqas_get : ∀ (vs : List Value) (as : List AV) (j : Nat), eqas vs as = true → j < as.length → eqa (vs.getD j undef) (as.getD j .any) = true ∧ (as.getD j .any).atom = true
  | [], [], j, _, hj => by simp at hj
  | [], _ :: _, _, h, _ => by simp [eqas] at h
  | _ :: _, [], _, h, _ => by simp [eqas] at h
  | v :: vs, a :: as, 0, h, _ => by simp only [eqas, Bool.and_eq_true] at h; exact ⟨h.1, h.2.1⟩
  | v :: vs, a :: as, j + 1, h, hj => by
    simp only [eqas, Bool.and_eq_true] at h
    simpa using eqas_get vs as j h.2.2 (by simpa using hj)

theorem getD_toList (cs : Array Value) (j : Nat) : cs.toList.getD j undef = cs.getD j undef := by
  simp [List.getD_eq_getElem?_getD, Array.getD_eq_getD_getElem?]

theorem vPlain_eq {v u : Value} (h : vPlain v = vPlain u) (h0 : vPlain v ≠ 0) : v = u := by
  have key : ∀ x : Value, (vPlain x = 1 → x = .pointer none) ∧ (vPlain x = 2 → x = .nilFunc) ∧ (vPlain x = 3 → x = .nilIface) ∧ (vPlain x = 4 → x = .tuple #[]) ∧ vPlain x ≤ 4 := by
    intro x
    cases x
    case pointer p => cases p <;> simp [vPlain]
    case tuple vs =>
      simp only [vPlain]
      by_cases hs : vs.size = 0
      · have : vs = #[] := Array.eq_empty_of_size_eq_zero hs
        subst this; simp
      · simp [hs]
    all_goals simp [vPlain]
  obtain ⟨a1, a2, a3, a4, a5⟩ := key v
  obtain ⟨b1, b2, b3, b4, b5⟩ := key u
  have : vPlain v = 1 ∨ vPlain v = 2 ∨ vPlain v = 3 ∨ vPlain v = 4 := by omega
  rcases this with e | e | e | e
  · rw [a1 e, b1 (h ▸ e)]
  · rw [a2 e, b2 (h ▸ e)]
  · rw [a3 e, b3 (h ▸ e)]
  · rw [a4 e, b4 (h ▸ e)]

theorem eqa_VR {S : Nat → Prop} {w : World} {v : Value} {a : AV} (h : eqa v a = true) : VR S w v a := by
  cases a <;> simp only [eqa] at h <;> try (cases h; done)
  case any => exact .any
  case int k n =>
    cases v <;> simp [vInt] at h
    obtain ⟨rfl, rfl⟩ := h; exact .int
  case bool b => cases v <;> simp [vBool] at h; subst h; exact .bool
  case str l =>
    cases v <;> simp [vStr] at h
    rename_i s
    subst h
    have : s = ⟨s.data.toList.toArray⟩ := by cases s; simp
    rw [this]; exact .str
  case nilsl =>
    cases v <;> simp [vNil] at h
    obtain ⟨rfl, rfl, rfl⟩ := h; exact .nilsl
  case sl sz els =>
    cases v <;> simp [vNil] at h
    obtain ⟨⟨rfl, rfl, rfl⟩, h1, h2⟩ := h
    subst h1
    exact .sl 0 0 (fun _ _ => undef) rfl (Nat.le_refl _) h2 (fun c => by simp at c) (fun i hi => by simp at hi) (fun i j hi => by simp at hi) (fun i j hi => by simp at hi)
  case cv u =>
    simp only [Bool.and_eq_true, beq_iff_eq, Bool.not_eq_true', beq_eq_false_iff_ne] at h
    rw [vPlain_eq h.1 h.2]; exact .cv

theorem eqv_VR {S : Nat → Prop} {w : World} {v : Value} {a : AV} (h : eqv v a = true) : VR S w v a := by
  cases a <;> simp only [eqv] at h <;> try (cases h; done)
  case agg as =>
    simp only [Bool.and_eq_true] at h
    obtain ⟨h0, h⟩ := h
    cases v <;> simp [vAgg] at h0
    rename_i cs
    simp only [vCells] at h
    refine .agg (by simpa using eqas_len _ _ h) (fun j hj => (eqas_get _ _ j h hj).2) fun j hj => ?_
    have := eqas_get _ _ j h hj
    rw [← getD_toList]
    exact eqa_VR this.1
  case any => exact .any
  all_goals exact eqa_VR h

theorem VR.toSR {S : Nat → Prop} {w : World} {g : Gh} {ob : Obs} {v : Value} {a : AV} (h : VR S w v a) : SR S w g ob v a := by
  have one : ∀ {v a}, VR S w v a → SR1 S w g ob v a := by
    intro v a h
    cases a <;> first | exact h | (cases h)
  cases a
  case fn f a1 a2 => cases h with | fn n1 n2 h1 h2 => exact ⟨_, _, rfl, n1, n2, fun j hj => one (h1 j hj), fun j hj => one (h2 j hj)⟩
  case tup as => cases h with | tup n h1 => exact ⟨_, rfl, n, fun j hj => one (h1 j hj)⟩
  case opt b a' => cases h
  all_goals first | exact h | cases h

theorem SR1.toSR {S : Nat → Prop} {w : World} {g : Gh} {ob : Obs} {v : Value} {a : AV} (h : SR1 S w g ob v a) : SR S w g ob v a := by
  cases a
  case own => exact h
  case ref => exact h
  all_goals exact VR.toSR h

/-- An operand reads as the interpreter says. -/
theorem FR.src {F : Nat → Prop} {g : Gh} {w : World} {tmps : Array Value} {ds : List Deferred} {vm ss : List Nat} {s : St} (h : FR F g w tmps vm ss s) {x : Operand} {y : Src} (hc : chkSrc vm ss x y = true) :
    SR (SetOf F g s.ob) w g s.ob (({ tmps := tmps, defers := ds } : Act).eval x) (rd s y) := by
  cases x
  case tmp t =>
    cases y
    case v n =>
      simp only [chkSrc, beq_iff_eq] at hc
      have hl : n < vm.length := by
        rcases Nat.lt_or_ge n vm.length with h' | h'
        · exact h'
        · rw [List.getElem?_eq_none h'] at hc; cases hc
      have := h.vs n hl
      rw [List.getD_eq_getElem?_getD (l := vm), hc] at this
      exact this
    case s n =>
      simp only [chkSrc, beq_iff_eq] at hc
      have hl : n < ss.length := by
        rcases Nat.lt_or_ge n ss.length with h' | h'
        · exact h'
        · rw [List.getElem?_eq_none h'] at hc; cases hc
      have := h.st n hl
      rw [List.getD_eq_getElem?_getD (l := ss), hc] at this
      exact this
    case c a => simp [chkSrc] at hc
  case const v =>
    cases y <;> simp only [chkSrc] at hc <;> try (cases hc; done)
    exact (eqv_VR hc).toSR
  case func f =>
    cases y <;> try (simp [chkSrc] at hc; done)
    rename_i a
    cases a <;> try (simp [chkSrc] at hc; done)
    rename_i fn a1 a2
    cases fn <;> try (simp [chkSrc] at hc; done)
    cases a1 <;> cases a2 <;> simp [chkSrc] at hc
    subst hc
    exact ⟨#[], #[], rfl, rfl, rfl, fun j hj => by simp at hj, fun j hj => by simp at hj⟩
  case global g => cases y <;> simp [chkSrc] at hc

/-- What is asked of an operation that writes nothing. -/
def StillPost (S : Nat → Prop) (w : World) (g : Gh) (ob : Obs) (key : Nat) (m : Mk) (r : Result Next) : Prop :=
  ∃ v w', r = .ok (.value v) w' ∧ Same (fun _ => False) w w' ∧
    ((m.hs = [] ∧ SR S w' g ob v m.v) ∨
     ∃ k h b cap, m.hs = [(k, h)] ∧ (k / 32 = key ∧ k % 32 ≠ 31) ∧ w.heap.size ≤ b ∧ (∀ S' : Nat → Prop, (∀ c, S' c → S c ∨ c = b) → Home S' w' b cap h.sz h.els) ∧
      ((m.v = .own k ∧ (v = .slice (some ⟨b, 0, none⟩) h.els.length cap ∨ (cap = 0 ∧ v = .slice none 0 0))) ∨ (m.v = .ref k 0 0 ∧ 0 < h.els.length ∧ v = .pointer (some ⟨b, 0, none⟩))))

theorem StillPost.val {S : Nat → Prop} {w : World} {g : Gh} {ob : Obs} {key : Nat} {m : Mk} {r : Result Next} {v : Value} (hr : r = .ok (.value v) w) (hh : m.hs = []) (h : SR S w g ob v m.v) : StillPost S w g ob key m r :=
  ⟨v, w, hr, Same.refl _ _, .inl ⟨hh, h⟩⟩

/-! ### Reading a value's cells -/

theorem cells_oneCell {v : Value} (h : v.oneCell' = true) : v.cells = #[v] := by cases v <;> first | rfl | (simp [Value.oneCell'] at h)

theorem atoms_cells {a : AV} (h : a.atoms = true) {j : Nat} (hj : j < a.cells.length) : (a.cells.getD j .any).atom = true := by
  simp only [AV.atoms, List.all_eq_true] at h
  refine h _ ?_
  rw [List.getD_eq_getElem?_getD, List.getElem?_eq_getElem hj]
  exact List.getElem_mem hj

theorem cells_one {a : AV} (h : a.isAgg = false) : a.cells = [a] := by cases a <;> first | rfl | (simp [AV.isAgg] at h)

/-- A value whose cells are atoms: its cells read as the cells say. -/
theorem VR.cells {S : Nat → Prop} {w : World} {v : Value} {a : AV} (h : VR S w v a) (ha : a.atoms = true) :
    v.cells.size = a.cells.length ∧ ∀ j, j < a.cells.length → VR S w (v.cells.getD j undef) (a.cells.getD j .any) := by
  by_cases hg : a.isAgg = true
  · cases a <;> simp [AV.isAgg] at hg
    cases h with | agg hn _ h1 => exact ⟨hn, h1⟩
  · have hg' : a.isAgg = false := by simpa using hg
    have hc := cells_one hg'
    have hat : a.atom = true := by have := atoms_cells ha (j := 0) (by simp [hc]); simpa [hc] using this
    rw [cells_oneCell (h.oneCell hat), hc]
    refine ⟨rfl, fun j hj => ?_⟩
    have : j = 0 := by simpa using hj
    subst this
    exact h

theorem SR.atoms {S : Nat → Prop} {w : World} {g : Gh} {ob : Obs} {v : Value} {a : AV} (h : SR S w g ob v a) (ha : a.atoms = true) : VR S w v a := by
  cases a
  case fn f a1 a2 =>
    obtain ⟨v1, v2, rfl, n1, n2, h1, h2⟩ := h
    have hat : (AV.fn f a1 a2).atom = true := by simpa [AV.atoms, AV.cells] using ha
    simp only [AV.atom, List.all_append, Bool.and_eq_true, List.all_eq_true, List.isEmpty_iff] at hat
    have one : ∀ {u : Value} {as : List AV} {j : Nat}, j < as.length → (∀ x, x ∈ as → x.key1 = []) → SR1 S w g ob u (as.getD j .any) → VR S w u (as.getD j .any) := by
      intro u as j hj hall hs
      have hm : as.getD j .any ∈ as := by rw [List.getD_eq_getElem?_getD, List.getElem?_eq_getElem hj]; exact List.getElem_mem hj
      have hk := hall _ hm
      revert hs hk
      generalize as.getD j .any = x
      intro hs hk
      cases x <;> first | exact hs | (simp [AV.key1] at hk)
    exact .fn n1 n2 (fun j hj => one hj hat.1 (h1 j hj)) (fun j hj => one hj hat.2 (h2 j hj))
  all_goals first | exact h | (simp [AV.atoms, AV.cells, AV.atom] at ha)

theorem home_new {S S' : Nat → Prop} {w : World} {v : Value} {a : AV} (h : VR S w v a) (ha : a.atoms = true) (hp : 1 ≤ a.cells.length) (t : TypeId) (hS : ∀ c, S' c → S c ∨ c = w.heap.size) :
    Home S' (w.alloc (.cells v.cells t)) w.heap.size 1 a.cells.length [a] := by
  have hc := h.cells ha
  refine ⟨hp, by simp, fun i hi => ?_, fun _ => ⟨v.cells, t, (0, 0), heap_alloc_new _ _, .inl rfl, by simp [hc.1], fun i j hi hj => ?_⟩⟩
  · have : i = 0 := by simpa using hi
    subst this; exact ⟨rfl, ha⟩
  · have : i = 0 := by simpa using hi
    subst this
    simp only [Nat.zero_mul, Nat.zero_add, List.getD_cons_zero]
    refine (hc.2 j hj).mono (Same.alloc _ _ _) fun b hb hc => ?_
    rcases hS b hc with e | e
    · exact e
    · omega

theorem still_box {S : Nat → Prop} {w : World} {g : Gh} {ob : Obs} {key : Nat} {P : Program} {t : TypeId} {v : Value} {a : AV} (h : VR S w v a) (hok : (boxA (keyOf key) a).ok = true) {r : Result Next}
    (hr : r = .ok (.value (.pointer (some ⟨w.heap.size, 0, none⟩))) (w.alloc (.cells v.cells t))) : StillPost S w g ob key (boxA (keyOf key) a) r := by
  simp only [boxA, Bool.and_eq_true, decide_eq_true_eq] at hok
  exact ⟨_, _, hr, Same.alloc _ _ _, .inr ⟨_, _, w.heap.size, 1, rfl, by simp [keyOf], Nat.le_refl _, fun S' hS => home_new h hok.2 hok.1 t hS, .inr ⟨rfl, by simp, rfl⟩⟩⟩

end Go.Proofs.Ytgbopjgnggdhkaa
