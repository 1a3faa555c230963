/- What the values without memory say of a world, and how that is kept. No condition. -/
import Derived.Test.YtbobhejdijcofaaGreatDoorEngA
import Derived.WalkKit
namespace Go.Proofs.YtbobhejdijcofaaGreatDoor
open Go Go.RowKit

/-- The variables of the library hold what they should, and none of them lies in a block of S. -/
def GT (S : Nat → Prop) (w : World) : Prop := ∀ q, q ∈ tabs → ¬ S q.1 ∧ ∃ cs T fz, w.heap[q.1]? = some (.cells cs T fz) ∧ q.2 cs

/-- The value v reads, in the world w, as a; no slice or pointer in it leads into a block of S. -/
inductive VR (S : Nat → Prop) (w : World) : Value → AV → Prop
  | int {k n} : VR S w (.int k n) (.int k n)
  | bool {b} : VR S w (.bool b) (.bool b)
  | str {l} : VR S w (.string ⟨l.toArray⟩) (.str l)
  | cv {v} : VR S w v (.cv v)
  | nilsl : VR S w (.slice none 0 0) .nilsl
  | any {v} : VR S w v .any
  | agg {cs : Array Value} {as : List AV} (hn : cs.size = as.length) (ha : ∀ j, j < as.length → (as.getD j .any).atom = true)
      (h : ∀ j, j < as.length → VR S w (cs.getD j undef) (as.getD j .any)) : VR S w (.agg cs) (.agg as)
  | tup {cs : Array Value} {as : List AV} (hn : cs.size = as.length)
      (h : ∀ j, j < as.length → VR S w (cs.getD j undef) (as.getD j .any)) : VR S w (.tuple cs) (.tup as)
  | sl {a : Option Addr} {n cap sz : Nat} {els : List AV} (b off : Nat) (rd : Nat → Nat → Value) (hn : n = els.length) (hcap : n ≤ cap) (hsz : 1 ≤ sz)
      (ha : 0 < els.length → a = some ⟨b, off, none⟩ ∧ ¬ S b)
      (hc : ∀ i, i < els.length → (els.getD i .any).cells.length = sz ∧ (els.getD i .any).atoms = true)
      (hw : ∀ i j, i < els.length → j < sz → w.cell? ⟨b, off + (i * sz + j), none⟩ = some (rd i j))
      (h : ∀ i j, i < els.length → j < sz → VR S w (rd i j) ((els.getD i .any).cells.getD j .any)) : VR S w (.slice a n cap) (.sl sz els)
  | ptr {sz : Nat} {els : List AV} {i0 o0 : Nat} (b off : Nat) (rd : Nat → Nat → Value) (hsz : 1 ≤ sz) (hi : i0 < els.length) (hs : ¬ S b)
      (hc : ∀ i, i < els.length → (els.getD i .any).cells.length = sz ∧ (els.getD i .any).atoms = true)
      (hw : ∀ i j, i < els.length → j < sz → w.cell? ⟨b, off + (i * sz + j), none⟩ = some (rd i j))
      (h : ∀ i j, i < els.length → j < sz → VR S w (rd i j) ((els.getD i .any).cells.getD j .any)) :
      VR S w (.pointer (some ⟨b, off + (i0 * sz + o0), none⟩)) (.ptr sz els i0 o0)
  | fn {f : Fn} {v1 v2 : Array Value} {a1 a2 : List AV} (h1n : v1.size = a1.length) (h2n : v2.size = a2.length)
      (h1 : ∀ j, j < a1.length → VR S w (v1.getD j undef) (a1.getD j .any)) (h2 : ∀ j, j < a2.length → VR S w (v2.getD j undef) (a2.getD j .any)) :
      VR S w (.func f v1 v2) (.fn f a1 a2)

/-- What was there and lies outside S is as it was. -/
structure Same (S : Nat → Prop) (w w' : World) : Prop where
  os : w'.os = w.os
  tape : w'.tape = w.tape
  output : w'.output = w.output
  size : w.heap.size ≤ w'.heap.size
  block : ∀ b, b < w.heap.size → ¬ S b → w'.heap[b]? = w.heap[b]?

theorem Same.refl (S : Nat → Prop) (w : World) : Same S w w := ⟨rfl, rfl, rfl, Nat.le_refl _, fun _ _ _ => rfl⟩
theorem Same.trans {S : Nat → Prop} {a b c : World} (h : Same S a b) (k : Same S b c) : Same S a c :=
  ⟨k.os.trans h.os, k.tape.trans h.tape, k.output.trans h.output, Nat.le_trans h.size k.size, fun x hx hs => (k.block x (Nat.lt_of_lt_of_le hx h.size) hs).trans (h.block x hx hs)⟩
theorem Same.mono {S S' : Nat → Prop} {w w' : World} (h : Same S w w') (hs : ∀ b, b < w.heap.size → S b → S' b) : Same S' w w' :=
  ⟨h.os, h.tape, h.output, h.size, fun b hb hn => h.block b hb fun c => hn (hs b hb c)⟩
theorem Same.alloc (S : Nat → Prop) (w : World) (o : Obj) : Same S w (w.alloc o) :=
  ⟨rfl, rfl, rfl, by simp, fun b hb _ => Below.heap_alloc w o b hb⟩
theorem Same.drew (S : Nat → Prop) (w : World) : Same S w w.drew := ⟨rfl, rfl, rfl, Nat.le_refl _, fun _ _ _ => rfl⟩

theorem cell_of_block {w w' : World} {a : Addr} (h : w'.heap[a.block]? = w.heap[a.block]?) : w'.cell? a = w.cell? a := by
  unfold World.cell?; rw [h]

theorem Same.cell {S : Nat → Prop} {w w' : World} (h : Same S w w') {b o : Nat} {v : Value} (hs : ¬ S b) (hc : w.cell? ⟨b, o, none⟩ = some v) : w'.cell? ⟨b, o, none⟩ = some v := by
  have hb := World.block_lt_of_cell? w ⟨b, o, none⟩ hc
  rw [cell_of_block (a := ⟨b, o, none⟩) (h.block b hb hs), hc]

/-- A reading is kept while the blocks outside S are; the set may lose blocks, and get new ones. -/
theorem VR.mono {S S' : Nat → Prop} {w w' : World} (hsame : Same S w w') (hS : ∀ b, b < w.heap.size → S' b → S b) {v : Value} {a : AV} (h : VR S w v a) : VR S' w' v a := by
  induction h with
  | int => exact .int
  | bool => exact .bool
  | str => exact .str
  | cv => exact .cv
  | nilsl => exact .nilsl
  | any => exact .any
  | agg hn ha _ ih => exact .agg hn ha ih
  | tup hn _ ih => exact .tup hn ih
  | fn h1n h2n _ _ i1 i2 => exact .fn h1n h2n i1 i2
  | @sl a n cap sz els b off rd hn hcap hsz ha hc hw _ ih =>
    refine .sl b off rd hn hcap hsz (fun hp => ?_) hc (fun i j hi hj => hsame.cell (ha (by omega)).2 (hw i j hi hj)) ih
    have hb := World.block_lt_of_cell? w _ (hw 0 0 hp (by omega))
    exact ⟨(ha hp).1, fun c => (ha hp).2 (hS b hb c)⟩
  | @ptr sz els i0 o0 b off rd hsz hi hs hc hw _ ih =>
    have hb := World.block_lt_of_cell? w _ (hw i0 0 hi (by omega))
    exact .ptr b off rd hsz hi (fun c => hs (hS b hb c)) hc (fun i j hi hj => hsame.cell hs (hw i j hi hj)) ih

theorem GT.mono {S S' : Nat → Prop} {w w' : World} (hsame : Same S w w') (hS : ∀ b, b < w.heap.size → S' b → S b) (h : GT S w) : GT S' w' := by
  intro q hq
  obtain ⟨h1, cs, T, fz, h2, h3⟩ := h q hq
  have hb : q.1 < w.heap.size := by
    rcases Nat.lt_or_ge q.1 w.heap.size with h' | h'
    · exact h'
    · rw [Array.getElem?_eq_none h'] at h2; cases h2
  exact ⟨fun c => h1 (hS _ hb c), cs, T, fz, by rw [hsame.block _ hb h1, h2], h3⟩

theorem VR.ext {S : Nat → Prop} {w w' : World} (hsame : Same S w w') {v : Value} {a : AV} (h : VR S w v a) : VR S w' v a := h.mono hsame fun _ _ c => c

theorem VR.narrow {S : Nat → Prop} {w : World} {v : Value} {sz i off : Nat} {els : List AV} (h : VR S w v (.ptr sz els i off)) : VR S w v (.ptr sz [els.getD i .any] 0 off) := by
  cases h with
  | ptr b o rd hsz hi hs hc hw hr =>
    have one : ∀ {n : Nat}, n < [els.getD i .any].length → n = 0 := fun h => by simpa using h
    have := VR.ptr (S := S) (w := w) (sz := sz) (els := [els.getD i .any]) (i0 := 0) (o0 := off) b (o + i * sz) (fun _ j => rd i j) hsz (by simp) hs (fun n hn => by rw [one hn]; exact hc i hi)
      (fun n j hn hj => by rw [one hn, Nat.zero_mul, Nat.zero_add, Nat.add_assoc]; exact hw i j hi hj) (fun n j hn hj => by rw [one hn]; exact hr i j hi hj)
    rw [Nat.zero_mul, Nat.zero_add, Nat.add_assoc] at this
    exact this

theorem VR.oneCell {S : Nat → Prop} {w : World} {v : Value} {a : AV} (h : VR S w v a) (ha : a.atom = true) : v.oneCell' = true := by
  cases h <;> first | rfl | (simp [AV.atom] at ha)

/-- The concrete places of the frame's own blocks, and how many elements have room there. -/
structure Gh where
  β : Nat → Nat
  cap : Nat → Nat

def inOb (ob : Obs) (k : Nat) : Prop := ∃ h, obGet k ob = some h

/-- A block of the frame's own that has room. -/
def liv (g : Gh) (ob : Obs) (k : Nat) : Prop := inOb ob k ∧ 0 < g.cap k

/-- The blocks that may be written: the caller's, which are left alone, and the frame's own. -/
def SetOf (F : Nat → Prop) (g : Gh) (ob : Obs) : Nat → Prop := fun b => F b ∨ ∃ k, liv g ob k ∧ g.β k = b

/-- Block b holds the elements els of sz cells, with room for cap. -/
structure Home (S : Nat → Prop) (w : World) (b cap sz : Nat) (els : List AV) : Prop where
  pos : 1 ≤ sz
  len : els.length ≤ cap
  cells : ∀ i, i < els.length → (els.getD i .any).cells.length = sz ∧ (els.getD i .any).atoms = true
  row : 0 < cap → ∃ arr T fz, w.heap[b]? = some (.cells arr T fz) ∧ (fz = (0, 0) ∨ (sz = 1 ∧ arr.size ≤ fz.1)) ∧ arr.size = cap * sz ∧
    ∀ i j, i < els.length → j < sz → VR S w (arr.getD (i * sz + j) undef) ((els.getD i .any).cells.getD j .any)

theorem Home.lt {S : Nat → Prop} {w : World} {b cap sz : Nat} {els : List AV} (h : Home S w b cap sz els) (hp : 0 < cap) : b < w.heap.size := by
  obtain ⟨arr, T, fz, hr, _⟩ := h.row hp
  rcases Nat.lt_or_ge b w.heap.size with h' | h'
  · exact h'
  · rw [Array.getElem?_eq_none h'] at hr; cases hr

theorem Home.mono {S S' : Nat → Prop} {w w' : World} {b cap sz : Nat} {els : List AV} (h : Home S w b cap sz els) (hsame : Same S w w')
    (hb : 0 < cap → w'.heap[b]? = w.heap[b]?) (hS : ∀ b, b < w.heap.size → S' b → S b) : Home S' w' b cap sz els := by
  refine ⟨h.pos, h.len, h.cells, fun hp => ?_⟩
  obtain ⟨arr, T, fz, hr, hf, hs, hv⟩ := h.row hp
  exact ⟨arr, T, fz, by rw [hb hp, hr], hf, hs, fun i j hi hj => (hv i j hi hj).mono hsame hS⟩

/-- A slot's value, without a look at what lies in it. -/
def SR1 (S : Nat → Prop) (w : World) (g : Gh) (ob : Obs) (v : Value) : AV → Prop
  | .own k => ∃ h, obGet k ob = some h ∧ (v = .slice (some ⟨g.β k, 0, none⟩) h.els.length (g.cap k) ∨ (g.cap k = 0 ∧ v = .slice none 0 0))
  | .ref k i off => ∃ h, obGet k ob = some h ∧ i < h.els.length ∧ v = .pointer (some ⟨g.β k, i * h.sz + off, none⟩)
  | a => VR S w v a

/-- What a slot holds. -/
def SR (S : Nat → Prop) (w : World) (g : Gh) (ob : Obs) (v : Value) : AV → Prop
  | .fn f a1 a2 => ∃ v1 v2, v = .func f v1 v2 ∧ v1.size = a1.length ∧ v2.size = a2.length ∧
      (∀ j, j < a1.length → SR1 S w g ob (v1.getD j undef) (a1.getD j .any)) ∧ (∀ j, j < a2.length → SR1 S w g ob (v2.getD j undef) (a2.getD j .any))
  | .tup as => ∃ vs, v = .tuple vs ∧ vs.size = as.length ∧ ∀ j, j < as.length → SR1 S w g ob (vs.getD j undef) (as.getD j .any)
  | .opt b a => if b = true then SR1 S w g ob v a else v = undef
  | a => SR1 S w g ob v a

end Go.Proofs.YtbobhejdijcofaaGreatDoor
