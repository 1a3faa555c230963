/- Rows of rows, rows of bytes, each in a block of its own. No condition. -/
import Derived.Test.YtbobhejdijcofaaGreatDoorEngCall
import Derived.Test.YtbobhejdijcofaaGreatDoorEngSH
import Derived.Deep.AppendLies
import Derived.Laws.AppendOwn
import Derived.Laws.IdiomStrings
import Derived.Deep.OwnRows
import Derived.Deep.RegionHeld3
import Derived.WalkKit
import Derived.Lib.Hide
namespace Go.Proofs.YtbobhejdijcofaaGreatDoor.plot
open Go Go.RowKit Go.Proofs.YtbobhejdijcofaaGreatDoor
set_option linter.unusedVariables false
set_option linter.unusedSimpArgs false
set_option maxRecDepth 100000

/-! ### Rows of a walk's own -/

def strV (l : List UInt8) : Value := .string ⟨l.toArray⟩
def rowV (l : List (List UInt8)) : List Value := l.map strV
def RowAt (N : Nat) (w : World) (v : Value) (l : List (List UInt8)) : Prop := w.ownsRow N 9 1 v l.length (rowV l)

theorem ownsRow_lt {w : World} {N : Nat} {e : TypeId} {sz n : Nat} {v : Value} {xs : List Value} (h : w.ownsRow N e sz v n xs) {b : Nat} (hb : v.ownBlock = some b) : N ≤ b ∧ b < w.heap.size := by
  rcases h.2 with ⟨rfl, _⟩ | ⟨g, cap, cur, rfl, h1, h2, _⟩
  · cases hb
  · obtain rfl : g = b := by simpa [Value.ownBlock] using hb
    refine ⟨h1, ?_⟩
    rcases Nat.lt_or_ge g w.heap.size with h' | h'
    · exact h'
    · rw [Array.getElem?_eq_none h'] at h2; cases h2

theorem ownsRow_same {K : Nat → Prop} {w w' : World} {N : Nat} {e : TypeId} {sz n : Nat} {v : Value} {xs : List Value} (h : w.ownsRow N e sz v n xs) (hs : Same K w w') (hk : ∀ b, v.ownBlock = some b → ¬ K b) : w'.ownsRow N e sz v n xs := by
  refine ⟨h.1, ?_⟩
  rcases h.2 with h1 | ⟨g, cap, cur, rfl, h1, h2, h3⟩
  · exact .inl h1
  · refine .inr ⟨g, cap, cur, rfl, h1, ?_, h3⟩
    have hb : (Value.slice (some ⟨g, 0, none⟩) n cap).ownBlock = some g := rfl
    rw [hs.block g (ownsRow_lt (N := N) h hb).2 (hk g hb), h2]

theorem ownsRow_cell {w : World} {N g n c : Nat} {e : TypeId} {xs : List Value} (h : w.ownsRow N e 1 (.slice (some ⟨g, 0, none⟩) n c) n xs) {i : Nat} (hi : i < n) : w.cell? ⟨g, i, none⟩ = some (xs.getD i undef) := by
  rcases h.2 with ⟨h1, _⟩ | ⟨g', cap, cur, hv, hb, hh, hle, _, hs, ht⟩
  · cases h1
  · cases hv
    rw [cell_of_row w g i cur e (0, 0) hh, ← ht, List.getD_eq_getElem?_getD, List.getElem?_take_of_lt (by omega), Array.getElem?_toList]
    have : i < cur.size := by omega
    rw [Array.getElem?_eq_getElem this]; rfl

theorem ownsRow_slice {w : World} {N : Nat} {e : TypeId} {sz n : Nat} {v : Value} {xs : List Value} (h : w.ownsRow N e sz v n xs) (h0 : 0 < n) : ∃ g c, v = .slice (some ⟨g, 0, none⟩) n c := by
  rcases h.2 with ⟨rfl, h1⟩ | ⟨g, cap, cur, rfl, _⟩
  · omega
  · exact ⟨_, _, rfl⟩

/-- The block of an own row holds cells of its type. -/
theorem ownsRow_block {w : World} {N : Nat} {e : TypeId} {sz n : Nat} {v : Value} {xs : List Value} (h : w.ownsRow N e sz v n xs) {b : Nat} (hb : v.ownBlock = some b) : ∃ cur fr, w.heap[b]? = some (.cells cur e fr) := by
  rcases h.2 with ⟨rfl, _⟩ | ⟨g, cap, cur, rfl, h1, h2, _⟩
  · cases hb
  · obtain rfl : g = b := by simpa [Value.ownBlock] using hb
    exact ⟨_, _, h2⟩

theorem same_grown {w w' : World} {row : Option Nat} (h : w.grownBy w' row) : Same (fun b => some b = row) w w' := ⟨h.os, h.tape, h.output, h.size, fun b hb hn => h.block b hb hn⟩

theorem new_row (w : World) {T : TypeId} : (w.alloc (.cells #[] T)).ownsRow w.heap.size T 1 (.slice (some ⟨w.heap.size, 0, none⟩) 0 0) 0 [] :=
  ⟨rfl, .inr ⟨w.heap.size, 0, #[], rfl, Nat.le_refl _, heap_alloc_new w _, Nat.le_refl _, Nat.zero_le _, rfl, rfl⟩⟩

theorem ownsRow_base {w : World} {N N' : Nat} {e : TypeId} {sz n : Nat} {v : Value} {xs : List Value} (h : w.ownsRow N e sz v n xs) (hN : N' ≤ N) : w.ownsRow N' e sz v n xs := by
  refine ⟨h.1, ?_⟩
  rcases h.2 with h1 | ⟨g, cap, cur, h0, h1, h2⟩
  · exact .inl h1
  · exact .inr ⟨g, cap, cur, h0, by omega, h2⟩

theorem same_over {K K' : Nat → Prop} {a b c : World} (h : Same K a b) (h' : Same K' b c) (hk : ∀ x, x < a.heap.size → K' x → K x) : Same K a c :=
  ⟨h'.os.trans h.os, h'.tape.trans h.tape, h'.output.trans h.output, Nat.le_trans h.size h'.size, fun x hx hn => (h'.block x (Nat.lt_of_lt_of_le hx h.size) fun c => hn (hk x hx c)).trans (h.block x hx hn)⟩

theorem same_set {w : World} (a : Addr) (v : Value) : Same (fun b => b = a.block) w (w.setCell a v) := ⟨rfl, rfl, rfl, by simp [World.setCell], fun b _ hn => Go.heap_setCell_other w a b v hn⟩

theorem row_VR {S : Nat → Prop} {w : World} {N : Nat} {v : Value} {l : List (List UInt8)} (h : RowAt N w v l) (hS : ∀ b, v.ownBlock = some b → ¬ S b) : VR S w v (slE 1 AV.str l) := by
  show VR S w v (.sl 1 (List.map AV.str l))
  rcases h.2 with ⟨rfl, hn⟩ | ⟨g, cap, cur, rfl, hb, hh, hle, _, hs, ht⟩
  · have : l = [] := List.length_eq_zero_iff.1 hn
    subst this
    exact .sl 0 0 (fun _ _ => undef) rfl (Nat.le_refl _) (by omega) (fun h => absurd h (by simp)) (fun i hi => absurd hi (by simp)) (fun i j hi => absurd hi (by simp)) (fun i j hi => absurd hi (by simp))
  · have one : ∀ i, i < l.length → (List.map AV.str l).getD i .any = .str (l.getD i []) := fun i hi => by
      rw [List.getD_eq_getElem?_getD, List.getElem?_map, List.getD_eq_getElem?_getD, List.getElem?_eq_getElem hi]; rfl
    have hget : ∀ i, i < l.length → cur[i]? = some (strV (l.getD i [])) := fun i hi => by
      have h1 : (cur.toList.take (l.length * 1))[i]? = (rowV l)[i]? := by rw [ht]
      rw [List.getElem?_take_of_lt (by omega), Array.getElem?_toList] at h1
      rw [h1]
      unfold rowV
      rw [List.getElem?_map, List.getD_eq_getElem?_getD, List.getElem?_eq_getElem hi]; rfl
    refine .sl g 0 (fun i j => cur.getD i undef) (by simp) hle (by omega) (fun _ => ⟨rfl, hS g rfl⟩) (fun i hi => ?_) (fun i j hi hj => ?_) (fun i j hi hj => ?_)
    · rw [one i (by simpa using hi)]; exact ⟨rfl, rfl⟩
    · obtain rfl : j = 0 := by omega
      rw [Nat.zero_add, Nat.mul_one, Nat.add_zero, cell_of_row w g i cur _ (0, 0) hh, Array.getD_eq_getD_getElem?, hget i (by simpa using hi)]; rfl
    · obtain rfl : j = 0 := by omega
      have hi' : i < l.length := by simpa using hi
      rw [one i hi', Array.getD_eq_getD_getElem?, hget i hi']
      exact .str

/-! ### Bytes -/

def byteV (c : UInt8) : Value := .int .u8 (c.toNat : Int)

/-- Block g holds the bytes l; none of them is frozen. -/
def ByteAt (w : World) (g : Nat) (l : List UInt8) : Prop := ∃ cur fr, w.heap[g]? = some (.cells cur 5 fr) ∧ (∀ j, j < l.length → cur[j]? = some (byteV (l.getD j 0))) ∧ l.length ≤ fr.1

theorem ByteAt.lt {w : World} {g : Nat} {l : List UInt8} (h : ByteAt w g l) : g < w.heap.size := by
  obtain ⟨cur, fr, h1, _⟩ := h
  rcases Nat.lt_or_ge g w.heap.size with h' | h'
  · exact h'
  · rw [Array.getElem?_eq_none h'] at h1; cases h1

theorem ByteAt.cell {w : World} {g : Nat} {l : List UInt8} (h : ByteAt w g l) {j : Nat} (hj : j < l.length) : w.cell? ⟨g, j, none⟩ = some (byteV (l.getD j 0)) ∧ w.frozen? ⟨g, j, none⟩ = false := by
  obtain ⟨cur, ⟨lo, hi⟩, h1, h2, h3⟩ := h
  have h3 : l.length ≤ lo := h3
  refine ⟨by rw [cell_of_row w g j cur _ _ h1, h2 j hj], ?_⟩
  unfold World.frozen?
  rw [h1]
  have : ¬ lo ≤ j := by omega
  simp [this]

theorem ByteAt.same {K : Nat → Prop} {w w' : World} {g : Nat} {l : List UInt8} (h : ByteAt w g l) (hs : Same K w w') (hk : ¬ K g) : ByteAt w' g l := by
  have hl := h.lt
  obtain ⟨cur, fr, h1, h2⟩ := h
  exact ⟨cur, fr, by rw [hs.block g hl hk, h1], h2⟩

theorem heap_set_same (w : World) (g j : Nat) (cur : Array Value) (e : TypeId) (fr : Nat × Nat) (u : Value) (h : w.heap[g]? = some (.cells cur e fr)) : (w.setCell ⟨g, j, none⟩ u).heap[g]? = some (.cells (cur.setIfInBounds j u) e fr) := by
  unfold World.setCell
  simp only [Array.getElem?_modify, if_true, h, Option.map_some]
  rfl

theorem ByteAt.set {w : World} {g : Nat} {l : List UInt8} (h : ByteAt w g l) {j : Nat} (hj : j < l.length) (c : UInt8) : ByteAt (w.setCell ⟨g, j, none⟩ (byteV c)) g (l.set j c) := by
  obtain ⟨cur, fr, h1, h2, h3⟩ := h
  refine ⟨_, fr, heap_set_same w g j cur _ fr _ h1, fun i hi => ?_, by simpa using h3⟩
  have hi : i < l.length := by simpa using hi
  have hs : j < cur.size := by
    rcases Nat.lt_or_ge j cur.size with c1 | c1
    · exact c1
    · have := h2 j hj; rw [Array.getElem?_eq_none c1] at this; cases this
  rw [Array.getElem?_setIfInBounds]
  by_cases e : j = i
  · subst e
    rw [if_pos rfl, if_pos hs]
    simp [List.getD_eq_getElem?_getD, hj]
  · rw [if_neg e, h2 i hi]
    simp [List.getD_eq_getElem?_getD, List.getElem?_set_ne e]

/-- A text's bytes in a new block. -/
theorem byteAt_new (w : World) (l : List UInt8) (cap : Nat) : ByteAt (w.drew.alloc (.cells (bytesRow ⟨l.toArray⟩ cap) 5 ((bytesRow ⟨l.toArray⟩ cap).size, (bytesRow ⟨l.toArray⟩ cap).size + 1))) w.heap.size l := by
  refine ⟨_, _, heap_alloc_new w.drew _, fun j hj => ?_, ?_⟩
  · rw [bytesRow_at _ _ _ (by simpa using hj)]
    unfold byteV
    simp [List.getD_eq_getElem?_getD, hj]
  · show l.length ≤ (bytesRow ⟨l.toArray⟩ cap).size
    unfold bytesRow
    simp

/-! ### The grid -/

/-- The row l lies in a block of its own. -/
def LineAt (N : Nat) (w : World) (v : Value) (l : List UInt8) : Prop := ∃ g c, v = .slice (some ⟨g, 0, none⟩) l.length c ∧ N ≤ g ∧ ByteAt w g l

theorem LineAt.block {N : Nat} {w : World} {v : Value} {l : List UInt8} (h : LineAt N w v l) : ∃ b cur fr, v.ownBlock = some b ∧ N ≤ b ∧ b < w.heap.size ∧ w.heap[b]? = some (.cells cur 5 fr) := by
  obtain ⟨g, c, rfl, h1, h2⟩ := h
  have hl := h2.lt
  obtain ⟨cur, fr, h3, _⟩ := h2
  exact ⟨g, cur, fr, rfl, h1, hl, h3⟩

theorem LineAt.same {K : Nat → Prop} {N : Nat} {w w' : World} {v : Value} {l : List UInt8} (h : LineAt N w v l) (hs : Same K w w') (hk : ∀ b, v.ownBlock = some b → ¬ K b) : LineAt N w' v l := by
  obtain ⟨g, c, rfl, h1, h2⟩ := h
  exact ⟨g, c, rfl, h1, h2.same hs (hk g rfl)⟩

structure GridAt (N : Nat) (w : World) (vo : Value) (vs : List Value) (G : List (List UInt8)) : Prop where
  ow : w.ownsRow N 22 1 vo G.length vs
  row : ∀ i, i < G.length → LineAt N w (vs.getD i undef) (G.getD i [])
  dis : ∀ i j, i < G.length → j < G.length → i ≠ j → ∀ b, (vs.getD i undef).ownBlock = some b → (vs.getD j undef).ownBlock ≠ some b

theorem GridAt.len {N : Nat} {w : World} {vo : Value} {vs : List Value} {G : List (List UInt8)} (h : GridAt N w vo vs G) : vs.length = G.length := by
  have := h.ow.1; omega

/-- Cells of another type lie elsewhere. -/
theorem GridAt.same {N : Nat} {K : Nat → Prop} {w w' : World} {vo : Value} {vs : List Value} {G : List (List UInt8)} (h : GridAt N w vo vs G) (hs : Same K w w') (hk : ∀ b, N ≤ b → K b → ∃ cur fr e, w.heap[b]? = some (.cells cur e fr) ∧ e ≠ 5 ∧ e ≠ 22) : GridAt N w' vo vs G := by
  refine ⟨ownsRow_same h.ow hs fun b hb c => ?_, fun i hi => (h.row i hi).same hs fun b hb c => ?_, h.dis⟩
  · obtain ⟨cur, fr, e⟩ := ownsRow_block h.ow hb
    obtain ⟨cur', fr', e', h1, h2, h3⟩ := hk b (ownsRow_lt h.ow hb).1 c
    rw [e] at h1
    injection h1 with h1
    injection h1 with _ h1 _
    exact h3 h1.symm
  · obtain ⟨b', cur, fr, h0, h1, _, h2⟩ := (h.row i hi).block
    rw [hb] at h0
    cases h0
    obtain ⟨cur', fr', e', h3, h4, h5⟩ := hk b h1 c
    rw [h2] at h3
    injection h3 with h3
    injection h3 with _ h3 _
    exact h4 h3.symm

theorem GridAt.still {N : Nat} {w w' : World} {vo : Value} {vs : List Value} {G : List (List UInt8)} (h : GridAt N w vo vs G) (hs : Same (fun _ => False) w w') : GridAt N w' vo vs G := h.same hs fun b _ c => c.elim

theorem grid_start (w : World) : GridAt w.heap.size (w.alloc (.cells #[] 22)) (.slice (some ⟨w.heap.size, 0, none⟩) 0 0) [] [] :=
  ⟨new_row w, fun i hi => absurd hi (by simp), fun i j hi => absurd hi (by simp)⟩

/-- A row more. -/
theorem GridAt.snoc {N : Nat} {w1 w2 w3 : World} {vo : Value} {vs : List Value} {G : List (List UInt8)} {l : List UInt8} {gr cr g cap : Nat} {o : Obj} (h : GridAt N w1 vo vs G) (hN : N ≤ w1.heap.size) (h12 : Same (fun _ => False) w1 w2) (hl : ByteAt w2 gr l) (hgr : w1.heap.size ≤ gr)
    (hw : w3.ownsRow N 22 1 (.slice (some ⟨g, 0, none⟩) (G.length + 1) cap) (G.length + 1) (vs ++ [.slice (some ⟨gr, 0, none⟩) l.length cr])) (hg : (w2.alloc o).grownBy w3 vo.ownBlock) :
    GridAt N w3 (.slice (some ⟨g, 0, none⟩) (G.length + 1) cap) (vs ++ [.slice (some ⟨gr, 0, none⟩) l.length cr]) (G ++ [l]) := by
  have h2 := h.still h12
  have hlen := h.len
  have hs2 : Same (fun b => some b = vo.ownBlock) w2 w3 := ((Same.alloc _ w2 o)).trans (same_grown hg)
  have e1 : ∀ i, i < G.length → (vs ++ [Value.slice (some ⟨gr, 0, none⟩) l.length cr]).getD i undef = vs.getD i undef ∧ (G ++ [l]).getD i [] = G.getD i [] := fun i hi => by
    constructor
    · rw [List.getD_eq_getElem?_getD, List.getD_eq_getElem?_getD, List.getElem?_append_left (by omega)]
    · rw [List.getD_eq_getElem?_getD, List.getD_eq_getElem?_getD, List.getElem?_append_left hi]
  have e2 : (vs ++ [Value.slice (some ⟨gr, 0, none⟩) l.length cr]).getD G.length undef = .slice (some ⟨gr, 0, none⟩) l.length cr ∧ (G ++ [l]).getD G.length [] = l := by
    constructor
    · rw [← hlen]; simp
    · simp
  have hlast : ∀ i, i < (G ++ [l]).length → i < G.length ∨ i = G.length := fun i hi => by simp at hi; omega
  have apart : ∀ b, w2.heap.size > b → (∃ cur fr, w2.heap[b]? = some (.cells cur 5 fr)) → ¬ some b = vo.ownBlock := by
    rintro b _ ⟨cur, fr, e⟩ hb
    obtain ⟨cur', fr', e'⟩ := ownsRow_block h2.ow hb.symm
    rw [e] at e'
    injection e' with e'
    injection e' with _ e' _
    exact absurd e' (by decide)
  refine ⟨by simpa using hw, fun i hi => ?_, fun i j hi hj hij b hb => ?_⟩
  · rcases hlast i hi with c | rfl
    · rw [(e1 i c).1, (e1 i c).2]
      refine (h2.row i c).same hs2 fun b hb => ?_
      obtain ⟨b', cur, fr, h0, _, h1, h3⟩ := (h2.row i c).block
      rw [hb] at h0
      cases h0
      exact apart b h1 ⟨_, _, h3⟩
    · rw [e2.1, e2.2]
      refine ⟨gr, cr, rfl, by omega, hl.same hs2 ?_⟩
      have hlt := hl.lt
      obtain ⟨cur, fr, e, _⟩ := hl
      exact apart gr hlt ⟨_, _, e⟩
  · have old : ∀ i, i < G.length → ∀ b, (vs.getD i undef).ownBlock = some b → b < w1.heap.size := fun i hi b hb => by
      obtain ⟨b', cur, fr, h0, _, h1, _⟩ := (h.row i hi).block
      rw [hb] at h0
      cases h0
      exact h1
    rcases hlast i hi with c | rfl
    · rw [(e1 i c).1] at hb
      rcases hlast j hj with d | rfl
      · rw [(e1 j d).1]; exact h.dis i j c d hij b hb
      · rw [e2.1]
        intro hb'
        have hb' : gr = b := by simpa [Value.ownBlock] using hb'
        have := old i c b hb; omega
    · rw [e2.1] at hb
      have hb : gr = b := by simpa [Value.ownBlock] using hb
      rcases hlast j hj with d | rfl
      · rw [(e1 j d).1]
        intro hb'
        have := old j d b hb'; omega
      · exact absurd rfl hij

theorem set_getD {α : Type} (l : List α) (k i : Nat) (x d : α) (hk : k < l.length) : (l.set k x).getD i d = if i = k then x else l.getD i d := by
  rw [List.getD_eq_getElem?_getD, List.getD_eq_getElem?_getD, List.getElem?_set]
  by_cases h : k = i
  · subst h; simp [hk]
  · rw [if_neg h, if_neg (fun e => h e.symm)]

/-- A byte of the grid is another one. -/
theorem GridAt.put {N : Nat} {w : World} {vo : Value} {vs : List Value} {G : List (List UInt8)} {k j gr cr : Nat} (h : GridAt N w vo vs G) (hk : k < G.length) (hv : vs.getD k undef = .slice (some ⟨gr, 0, none⟩) (G.getD k []).length cr) (hj : j < (G.getD k []).length) (c : UInt8) :
    GridAt N (w.setCell ⟨gr, j, none⟩ (byteV c)) vo vs (G.set k ((G.getD k []).set j c)) := by
  have hs := same_set (w := w) ⟨gr, j, none⟩ (byteV c)
  have hb : (vs.getD k undef).ownBlock = some gr := by rw [hv]; rfl
  have hB : ByteAt w gr (G.getD k []) := by
    obtain ⟨g, c', e, _, h2⟩ := h.row k hk
    rw [hv] at e
    injection e with e _ _
    injection e with e
    injection e with e _ _
    rw [e]; exact h2
  have hN : N ≤ gr := by
    obtain ⟨b, _, _, e, h1, _⟩ := (h.row k hk).block
    rw [hb] at e; cases e; exact h1
  refine ⟨?_, fun i hi => ?_, fun i i' hi hi' => h.dis i i' (by simpa using hi) (by simpa using hi')⟩
  · rw [List.length_set]
    refine ownsRow_same h.ow hs fun b hb2 e => ?_
    have e : b = gr := e
    obtain ⟨cur, fr, h1⟩ := ownsRow_block h.ow hb2
    obtain ⟨cur', fr', h2, _⟩ := hB
    rw [e, h2] at h1
    injection h1 with h1
    injection h1 with _ h1 _
    exact absurd h1 (by decide)
  · have hi : i < G.length := by simpa using hi
    rw [set_getD _ _ _ _ _ hk]
    by_cases e : i = k
    · subst e
      rw [if_pos rfl, hv]
      exact ⟨gr, cr, by simp, hN, hB.set hj c⟩
    · rw [if_neg e]
      refine (h.row i hi).same hs fun b hb2 e2 => ?_
      have e2 : b = gr := e2
      subst e2
      exact h.dis k i hk hi (fun c => e c.symm) _ hb hb2

end Go.Proofs.YtbobhejdijcofaaGreatDoor.plot

namespace Go.Proofs.YtbobhejdijcofaaGreatDoor.plot
open Go Go.RowKit Go.Proofs.YtbobhejdijcofaaGreatDoor
set_option linter.unusedVariables false
set_option linter.unusedSimpArgs false
set_option maxRecDepth 100000

/-! ### Texts to bytes and back -/

section
variable {P : Program}

theorem wpList_bytes (w : World) {ops : Array Oper} {rest : List Oper} {o : Oper} {a : Act} {Q : Exit → Act → World → Prop} (hg : o.guard = none) (x : Operand) (src dst : TypeId) (hop : o.op = Op.convert src dst x)
    (hs : P.underlying src = some .string) (hd : P.underlying dst = some (.slice 5)) (he : P.underlying 5 = some (.int .u8)) (l : List UInt8) (hx : a.eval x = .string ⟨l.toArray⟩)
    (hK : ∀ w' cap, Same (fun _ => False) w w' → w'.heap.size = w.heap.size + 1 → ByteAt w' w.heap.size l → wpList P ops Q rest (a.put o.dst (.slice (some ⟨w.heap.size, 0, none⟩) l.length cap)) w') : wpList P ops Q (o :: rest) a w := by
  refine wpList_plain hg fun K hK' => ?_
  have hrun := run_bytes_of_string (P := P) w src dst 5 ⟨l.toArray⟩ hs hd he
  have hsz : (⟨l.toArray⟩ : ByteArray).size = l.length := by simp [ByteArray.size]
  rw [hsz] at hrun
  unfold Oper.wp
  simp [execOp, hop, hx, hrun, Result.andThen]
  exact hK' _ _ (hK _ _ ((Same.drew _ w).trans (Same.alloc _ w.drew _)) (by show (w.heap.push _).size = _; rw [Array.size_push]) (byteAt_new w l _))

theorem wpList_text (w : World) {ops : Array Oper} {rest : List Oper} {o : Oper} {a : Act} {Q : Exit → Act → World → Prop} (hg : o.guard = none) (x : Operand) (src dst : TypeId) (hop : o.op = Op.convert src dst x)
    (hs : P.underlying src = some (.slice 5)) (hd : P.underlying dst = some .string) (he : P.underlying 5 = some (.int .u8)) (l : List UInt8) (g c : Nat) (hx : a.eval x = .slice (some ⟨g, 0, none⟩) l.length c) (hB : ByteAt w g l)
    (hK : wpList P ops Q rest (a.put o.dst (.string ⟨l.toArray⟩)) w) : wpList P ops Q (o :: rest) a w := by
  refine wpList_plain hg fun K hK' => ?_
  have hrun := run_convert_bytes_back (P := P) w src dst 5 ⟨g, 0, none⟩ c l hs he hd (fun j hj => by
    have e : (⟨g, 0, none⟩ : Addr).add j = ⟨g, 0 + j, none⟩ := by unfold Addr.add; split <;> simp_all
    rw [Nat.zero_add] at e
    rw [e, (hB.cell hj).1]
    unfold byteV
    simp [List.getD_eq_getElem?_getD, hj])
  unfold Oper.wp
  simp [execOp, hop, hx, hrun, Result.andThen]
  exact hK' _ _ hK
end
end Go.Proofs.YtbobhejdijcofaaGreatDoor.plot
