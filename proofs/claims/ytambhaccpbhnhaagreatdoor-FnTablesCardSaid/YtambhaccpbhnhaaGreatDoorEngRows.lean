/- spec.l24DrawRows at this translation, by the kit's walk: rows of rows, each in a block of its own. No condition. -/
import Derived.Test.YtambhaccpbhnhaaGreatDoorTBC
import Derived.Test.YtambhaccpbhnhaaGreatDoorEngSrc
import Derived.Deep.AppendLies
import Derived.Laws.AppendOwn
import Derived.Deep.OwnRows
import Derived.Deep.RegionHeld3
import Derived.Lib.Builder
import Derived.WalkKit
import Derived.Lib.Hide
namespace Go.Proofs.YtambhaccpbhnhaaGreatDoor
open Go Go.RowKit
set_option linter.unusedVariables false
set_option linter.unusedSimpArgs false
set_option maxRecDepth 100000

/-! ### The source, and rows of the walk's own -/

/-- The source s lies in block rb; the blocks of O are written by the walk, and the source does not read them. -/
structure SrcAt (cp rb : Nat) (O : Nat → Prop) (w : World) (s : L00Src) : Prop where
  lo : ∀ b, O b → b < w.heap.size
  ne : ¬ O rb
  lt : rb < w.heap.size
  home : Home (OwnS rb O) w rb cp 3 [L00Src_av s]
  gt : GT (OwnS rb O) w

/-- O with what is new. -/
def More (O : Nat → Prop) (w w' : World) : Nat → Prop := fun b => O b ∨ (w.heap.size ≤ b ∧ b < w'.heap.size)

theorem SrcAt.ext {cp rb : Nat} {O : Nat → Prop} {w w' : World} {s : L00Src} (h : SrcAt cp rb O w s) (hs : Same O w w') : SrcAt cp rb (More O w w') w' s := by
  have hsub : ∀ b, b < w.heap.size → OwnS rb (More O w w') b → OwnS rb O b := by
    rintro b hb (c | c | ⟨c, _⟩)
    · exact .inl c
    · exact .inr c
    · omega
  have hs' : Same (OwnS rb O) w w' := hs.mono fun _ _ c => .inr c
  refine ⟨?_, ?_, Nat.lt_of_lt_of_le h.lt hs.size, h.home.mono hs' (fun _ => hs.block rb h.lt h.ne) hsub, h.gt.mono hs' hsub⟩
  · rintro b (c | ⟨_, c⟩)
    · exact Nat.lt_of_lt_of_le (h.lo b c) hs.size
    · exact c
  · rintro (c | ⟨c, _⟩)
    · exact h.ne c
    · have := h.lt; omega

theorem SrcAt.still {cp rb : Nat} {O : Nat → Prop} {w w' : World} {s : L00Src} (h : SrcAt cp rb O w s) (hs : Same (fun _ => False) w w') : SrcAt cp rb O w' s :=
  ⟨fun b c => Nat.lt_of_lt_of_le (h.lo b c) hs.size, h.ne, Nat.lt_of_lt_of_le h.lt hs.size, h.home.mono (hs.mono fun _ _ c => c.elim) (fun _ => hs.block rb h.lt id) fun _ _ c => c, h.gt.mono (hs.mono fun _ _ c => c.elim) fun _ _ c => c⟩

theorem SrcAt.call {f : FuncId} {C : Ctr} {fu : Func} {c : Code} (hC : Sound Tryz.prog f C) (hf : Tryz.prog.funcs[f]? = some fu) (hb : fu.body = some c) (hn : (fu.name == "runtime.NumGoroutine") = false) {cp rb : Nat} {O : Nat → Prop} {w : World} {s s' : L00Src} (h : SrcAt cp rb O w s)
    {more : List AV} {vm : List Value} (hl : vm.length = more.length) (hsh : shapes C.modes (.mem 3 [L00Src_av s] 0 :: more) = true) (hm : C.modes[0]? = some .io) (hbor : more.all (fun a => !isFM a) = true)
    (hv : ∀ j, j < more.length → VR (OwnS rb O) w (vm.getD j undef) (more.getD j .any)) {r : AV} {outs : List AV} (hF : C.F (.mem 3 [L00Src_av s] 0 :: more) = ⟨true, r, .mem 3 [L00Src_av s'] 0 :: outs⟩) (hr : flat1 r = true) :
    Calls Tryz.prog f (Value.pointer (some ⟨rb, 0, none⟩) :: vm).toArray w fun e w' => ∃ v, e = .returned v ∧ Same (· = rb) w w' ∧ VR (fun _ => False) w' v r ∧ SrcAt cp rb O w' s' := by
  refine (call_io hC hf hb hn (by simp [hl]) rfl hsh hm hbor (fun j hj => ?_) h.home h.lo h.ne h.gt hF hr).mono ?_
  · have := hv j hj
    simpa using this
  · rintro e w' ⟨v, rfl, hs, hv, hh, hg⟩
    exact ⟨v, rfl, hs, hv, fun b c => Nat.lt_of_lt_of_le (h.lo b c) hs.size, h.ne, Nat.lt_of_lt_of_le h.lt hs.size, hh, hg⟩

theorem arrCons {a : Value} {l : List Value} : (a :: l).toArray = #[a] ++ l.toArray := by simp

theorem pick_calls {cp rb : Nat} {O : Nat → Prop} {w : World} {s s' : L00Src} {n v : Int} (h : spec_l00Src_pick s n = some (v, s')) (hS : SrcAt cp rb O w s) :
    Calls Tryz.prog 29 #[.pointer (some ⟨rb, 0, none⟩), .int .i64 n] w fun e w' => e = .returned (.int .i64 v) ∧ Same (· = rb) w w' ∧ SrcAt cp rb O w' s' := by
  refine (hS.call (vm := [.int .i64 n]) (more := [.int .i64 n]) s_3 Tryz.func29 rfl (by kernel_rfl) rfl (by rw [M_3]; rfl) (by rw [M_3]; rfl) rfl (fun j hj => ?_) (Fs_3 h) rfl).mono ?_
  · obtain rfl : j = 0 := by simpa using hj
    exact .int
  · rintro e w' ⟨u, rfl, hs, hv, hS'⟩
    cases hv
    exact ⟨rfl, hs, hS'⟩

theorem one_calls {cp rb : Nat} {O : Nat → Prop} {w : World} {s s' : L00Src} {n : Int} {v : Bool} (h : spec_l00Src_one s n = some (v, s')) (hS : SrcAt cp rb O w s) :
    Calls Tryz.prog 30 #[.pointer (some ⟨rb, 0, none⟩), .int .i64 n] w fun e w' => e = .returned (.bool v) ∧ Same (· = rb) w w' ∧ SrcAt cp rb O w' s' := by
  refine (hS.call (vm := [.int .i64 n]) (more := [.int .i64 n]) s_4 Tryz.func30 rfl (by kernel_rfl) rfl (by rw [M_4]; rfl) (by rw [M_4]; rfl) rfl (fun j hj => ?_) (Fs_4 h) rfl).mono ?_
  · obtain rfl : j = 0 := by simpa using hj
    exact .int
  · rintro e w' ⟨u, rfl, hs, hv, hS'⟩
    cases hv
    exact ⟨rfl, hs, hS'⟩

theorem word_calls {cp rb : Nat} {O : Nat → Prop} {w : World} {s s' : L00Src} {v : List UInt8} (h : spec_l24Word s = some (v, s')) (hS : SrcAt cp rb O w s) :
    Calls Tryz.prog 37 #[.pointer (some ⟨rb, 0, none⟩)] w fun e w' => e = .returned (.string ⟨v.toArray⟩) ∧ Same (· = rb) w w' ∧ SrcAt cp rb O w' s' := by
  refine (hS.call (vm := []) (more := []) s_6 Tryz.func37 rfl (by kernel_rfl) rfl (by rw [M_6]; rfl) (by rw [M_6]; rfl) rfl (fun j hj => absurd hj (by simp)) (Fs_6 h) rfl).mono ?_
  rintro e w' ⟨u, rfl, hs, hv, hS'⟩
  cases hv
  exact ⟨rfl, hs, hS'⟩

theorem blanks_calls {w : World} {n : Int} {v : List UInt8} (h : spec_l24Blanks n = some v) (hgt : GT (fun _ => False) w) :
    Calls Tryz.prog 35 #[.int .i64 n] w fun e w' => e = .returned (.string ⟨v.toArray⟩) ∧ Same (fun _ => False) w w' := by
  refine (call_frz (args := [.int .i64 n]) s_7 Tryz.func35 rfl (by kernel_rfl) rfl (by rw [M_7]; rfl) rfl (fun j hj => ?_) hgt (Fs_7 h)).mono ?_
  · obtain rfl : j = 0 := by simpa using hj
    exact .int
  · rintro e w' ⟨u, rfl, hs, hv⟩
    cases hv
    exact ⟨rfl, hs⟩

def strV (l : List UInt8) : Value := .string ⟨l.toArray⟩
def rowV (l : List (List UInt8)) : List Value := l.map strV

theorem rowV_len (l : List (List UInt8)) : (rowV l).length = l.length := by simp [rowV]

/-- The row l lies in a block of its own, not older than N. -/
def RowAt (N : Nat) (w : World) (v : Value) (l : List (List UInt8)) : Prop := w.ownsRow N 9 1 v l.length (rowV l)

theorem ownsRow_lt {w : World} {N : Nat} {e : TypeId} {sz n : Nat} {v : Value} {xs : List Value} (h : w.ownsRow N e sz v n xs) {b : Nat} (hb : v.ownBlock = some b) : N ≤ b ∧ b < w.heap.size := by
  rcases h.2 with ⟨rfl, _⟩ | ⟨g, cap, cur, rfl, h1, h2, _⟩
  · cases hb
  · obtain rfl : g = b := by simpa [Value.ownBlock] using hb
    refine ⟨h1, ?_⟩
    rcases Nat.lt_or_ge g w.heap.size with h' | h'
    · exact h'
    · rw [Array.getElem?_eq_none h'] at h2; cases h2

theorem ownsRow_same {K : Nat → Prop} {w w' : World} {N : Nat} {e : TypeId} {sz n : Nat} {v : Value} {xs : List Value} (h : w.ownsRow N e sz v n xs) (hs : Same K w w') (hk : ∀ b, v.ownBlock = some b → ¬ K b) : w'.ownsRow N e sz v n xs := by
  refine ⟨h.1, ?_⟩
  rcases h.2 with h1 | ⟨g, cap, cur, rfl, h1, h2, h3⟩
  · exact .inl h1
  · refine .inr ⟨g, cap, cur, rfl, h1, ?_, h3⟩
    have hb : (Value.slice (some ⟨g, 0, none⟩) n cap).ownBlock = some g := rfl
    rw [hs.block g (ownsRow_lt (N := N) h hb).2 (hk g hb), h2]

theorem ownsRow_base {w : World} {N N' : Nat} {e : TypeId} {sz n : Nat} {v : Value} {xs : List Value} (h : w.ownsRow N e sz v n xs) (hN : N' ≤ N) : w.ownsRow N' e sz v n xs := by
  refine ⟨h.1, ?_⟩
  rcases h.2 with h1 | ⟨g, cap, cur, h0, h1, h2⟩
  · exact .inl h1
  · exact .inr ⟨g, cap, cur, h0, by omega, h2⟩

theorem ownsRow_type {w : World} {N N' : Nat} {e e' : TypeId} {sz sz' n n' : Nat} {v v' : Value} {xs xs' : List Value} (h : w.ownsRow N e sz v n xs) (h' : w.ownsRow N' e' sz' v' n' xs') (he : e ≠ e') {b : Nat} (hb : v.ownBlock = some b) : v'.ownBlock ≠ some b := by
  intro hb'
  rcases h.2 with ⟨rfl, _⟩ | ⟨g, cap, cur, rfl, h1, h2, _⟩
  · cases hb
  · obtain rfl : g = b := by simpa [Value.ownBlock] using hb
    rcases h'.2 with ⟨rfl, _⟩ | ⟨g', cap', cur', rfl, h1', h2', _⟩
    · cases hb'
    · obtain rfl : g' = g := by simpa [Value.ownBlock] using hb'
      rw [h2] at h2'
      injection h2' with h2'
      injection h2' with _ h2' _
      exact he h2'

theorem ownsRow_slice {w : World} {N : Nat} {e : TypeId} {sz n : Nat} {v : Value} {xs : List Value} (h : w.ownsRow N e sz v n xs) : ∃ a c, v = .slice a n c := by
  rcases h.2 with ⟨rfl, rfl⟩ | ⟨g, cap, cur, rfl, _⟩
  · exact ⟨_, _, rfl⟩
  · exact ⟨_, _, rfl⟩

/-- The rows of the walk's own: each in a block of its own. -/
structure RowsAt (N : Nat) (O : Nat → Prop) (w : World) (vo : Value) (vs : List Value) (out : List (List (List UInt8))) : Prop where
  ow : w.ownsRow N 27 1 vo out.length vs
  oo : ∀ b, vo.ownBlock = some b → O b
  row : ∀ i, i < out.length → RowAt N w (vs.getD i undef) (out.getD i [])
  ro : ∀ i, i < out.length → ∀ b, (vs.getD i undef).ownBlock = some b → O b
  dis : ∀ i j, i < out.length → j < out.length → i ≠ j → ∀ b, (vs.getD i undef).ownBlock = some b → (vs.getD j undef).ownBlock ≠ some b

theorem RowsAt.len {N : Nat} {O : Nat → Prop} {w : World} {vo : Value} {vs : List Value} {out : List (List (List UInt8))} (h : RowsAt N O w vo vs out) : vs.length = out.length := by
  have := h.ow.1; omega

theorem RowsAt.apart {N : Nat} {O : Nat → Prop} {w : World} {vo : Value} {vs : List Value} {out : List (List (List UInt8))} (h : RowsAt N O w vo vs out) {i : Nat} (hi : i < out.length) {b : Nat} (hb : (vs.getD i undef).ownBlock = some b) : vo.ownBlock ≠ some b :=
  ownsRow_type (h.row i hi) h.ow (by decide) hb

/-- Nothing of the rows has been written. -/
theorem RowsAt.same {N : Nat} {O O' K : Nat → Prop} {w w' : World} {vo : Value} {vs : List Value} {out : List (List (List UInt8))} (h : RowsAt N O w vo vs out) (hs : Same K w w') (hO : ∀ b, O b → O' b) (hk : ∀ b, b < w.heap.size → N ≤ b → O b → ¬ K b) : RowsAt N O' w' vo vs out := by
  refine ⟨ownsRow_same h.ow hs fun b hb => ?_, fun b hb => hO b (h.oo b hb), fun i hi => ownsRow_same (h.row i hi) hs fun b hb => ?_, fun i hi b hb => hO b (h.ro i hi b hb), h.dis⟩
  · have := ownsRow_lt h.ow hb
    exact hk b this.2 this.1 (h.oo b hb)
  · have := ownsRow_lt (h.row i hi) hb
    exact hk b this.2 this.1 (h.ro i hi b hb)

theorem str_info : (Tryz.prog.info? 9).map (fun i => (i.zero, i.size, i.bytes)) = some (some (.string ⟨#[]⟩), 1, 16) := by kernel_rfl
theorem und_strs : Tryz.prog.underlying 27 = some (.slice 9) := by kernel_rfl
theorem strs_info : (Tryz.prog.info? 27).map (fun i => (i.zero, i.size, i.bytes)) = some (some (.slice none 0 0), 1, 24) := by kernel_rfl
theorem und_rows : Tryz.prog.underlying 24 = some (.slice 27) := by kernel_rfl

theorem same_grown {w w' : World} {row : Option Nat} (h : w.grownBy w' row) : Same (fun b => some b = row) w w' := ⟨h.os, h.tape, h.output, h.size, fun b hb hn => h.block b hb hn⟩

theorem new_row (w : World) {T : TypeId} : (w.alloc (.cells #[] T)).ownsRow w.heap.size T 1 (.slice (some ⟨w.heap.size, 0, none⟩) 0 0) 0 [] :=
  ⟨rfl, .inr ⟨w.heap.size, 0, #[], rfl, Nat.le_refl _, heap_alloc_new w _, Nat.le_refl _, Nat.zero_le _, rfl, rfl⟩⟩

/-- A row is finished, and put behind the others. -/
theorem RowsAt.snoc {N N1 rb : Nat} {O O1 : Nat → Prop} {w w1 w2 : World} {vo vr : Value} {vs : List Value} {out : List (List (List UInt8))} {row : List (List UInt8)} {o : Obj} {g cap : Nat} (h : RowsAt N O w vo vs out) (hs : Same (· = rb) w w1) (hrb : rb < N) (hO : ∀ b, O b → O1 b) (hN1 : w.heap.size ≤ N1) (hN : N ≤ w.heap.size)
    (hr : RowAt N1 w1 vr row) (hro : ∀ b, vr.ownBlock = some b → O1 b) (hw : w2.ownsRow N 27 1 (.slice (some ⟨g, 0, none⟩) (out.length + 1) cap) (out.length + 1) (vs ++ [vr])) (hg : (w1.alloc o).grownBy w2 vo.ownBlock) (hat : vo.ownBlock = some g ∨ g = w1.heap.size + 1) (hlt : g < w2.heap.size) :
    RowsAt N (More O1 w1 w2) w2 (.slice (some ⟨g, 0, none⟩) (out.length + 1) cap) (vs ++ [vr]) (out ++ [row]) := by
  have h1 : RowsAt N O1 w1 vo vs out := h.same hs hO (fun b _ hb _ e => by omega)
  have hl := h1.len
  have hsz : (w1.alloc o).heap.size = w1.heap.size + 1 := by show (w1.heap.push o).size = _; simp
  have hs2 : Same (fun b => some b = vo.ownBlock) w1 w2 := ((Same.alloc _ w1 o)).trans (same_grown hg)
  have e1 : ∀ i, i < out.length → (vs ++ [vr]).getD i undef = vs.getD i undef ∧ (out ++ [row]).getD i [] = out.getD i [] := fun i hi => by
    constructor
    · rw [List.getD_eq_getElem?_getD, List.getD_eq_getElem?_getD, List.getElem?_append_left (by omega)]
    · rw [List.getD_eq_getElem?_getD, List.getD_eq_getElem?_getD, List.getElem?_append_left hi]
  have e2 : (vs ++ [vr]).getD out.length undef = vr ∧ (out ++ [row]).getD out.length [] = row := by
    constructor
    · rw [← hl]; simp
    · simp
  have hlast : ∀ i, i < (out ++ [row]).length → i < out.length ∨ i = out.length := fun i hi => by simp at hi; omega
  refine ⟨by simpa using hw, fun b hb => ?_, fun i hi => ?_, fun i hi b hb => ?_, fun i j hi hj hij b hb => ?_⟩
  · obtain rfl : g = b := by simpa [Value.ownBlock] using hb
    rcases hat with c | c
    · exact .inl (h1.oo _ c)
    · exact .inr ⟨by omega, hlt⟩
  · rcases hlast i hi with c | rfl
    · rw [(e1 i c).1, (e1 i c).2]
      exact ownsRow_same (h1.row i c) hs2 fun b hb e => h1.apart c hb e.symm
    · rw [e2.1, e2.2]
      exact ownsRow_base (ownsRow_same hr hs2 fun b hb e => ownsRow_type hr h1.ow (by decide) hb e.symm) (by omega)
  · rcases hlast i hi with c | rfl
    · rw [(e1 i c).1] at hb; exact .inl (h1.ro i c b hb)
    · rw [e2.1] at hb; exact .inl (hro b hb)
  · have old : ∀ i, i < out.length → ∀ b, (vs.getD i undef).ownBlock = some b → b < w.heap.size := fun i hi b hb => (ownsRow_lt (h.row i hi) hb).2
    have new : ∀ b, vr.ownBlock = some b → w.heap.size ≤ b := fun b hb => Nat.le_trans hN1 (ownsRow_lt hr hb).1
    rcases hlast i hi with c | rfl
    · rw [(e1 i c).1] at hb
      rcases hlast j hj with d | rfl
      · rw [(e1 j d).1]; exact h1.dis i j c d hij b hb
      · rw [e2.1]
        intro hb'
        have := old i c b hb; have := new b hb'; omega
    · rw [e2.1] at hb
      rcases hlast j hj with d | rfl
      · rw [(e1 j d).1]
        intro hb'
        have := old j d b hb'; have := new b hb; omega
      · exact absurd rfl hij

/-- What the call leaves. -/
def RowsEnd (cp : Nat) (F : Nat → Prop) (rb : Nat) (w : World) (out : List (List (List UInt8))) (s' : L00Src) (e : Ending) (w' : World) : Prop :=
  ∃ vo vs O, e = .returned vo ∧ Same (· = rb) w w' ∧ SrcAt cp rb O w' s' ∧ (∀ b, F b → O b) ∧ RowsAt w.heap.size O w' vo vs out

/-- The outer loop: what is left to be drawn. -/
def OutRel (cp : Nat) (F : Nat → Prop) (rb : Nat) (w : World) (n : Nat) (fin : List (List (List UInt8)) × L00Src) (vo k : Value) (wr : World) : Prop :=
  ∃ z s out vs O, k = .int .i64 z ∧ z ≤ 1000000 ∧ spec_l24DrawRows_r n z.toNat s out = some fin ∧ (∀ b, F b → O b) ∧ SrcAt cp rb O wr s ∧ RowsAt w.heap.size O wr vo vs out ∧ Same (· = rb) w wr

/-- The inner loop. -/
def InRel (cp rb : Nat) (O1 : Nat → Prop) (N1 : Nat) (w1 : World) (n : Nat) (fin : List (List UInt8) × L00Src) (vr i : Value) (wr : World) : Prop :=
  ∃ (j : Nat) (row : List (List UInt8)) (s : L00Src) (O : Nat → Prop), i = .int .i64 (j : Int) ∧ j ≤ n ∧ spec_l24DrawRows_w (n - j) s row = some fin ∧ (∀ b, O1 b → O b) ∧ SrcAt cp rb O wr s ∧ RowAt N1 wr vr row ∧ (∀ b, vr.ownBlock = some b → O b) ∧ Same (· = rb) w1 wr

def kOf : Value → Nat
  | .int _ z => z.toNat
  | _ => 0

theorem rows_start (w : World) (O : Nat → Prop) : RowsAt w.heap.size (More O w (w.alloc (.cells #[] 27))) (w.alloc (.cells #[] 27)) (.slice (some ⟨w.heap.size, 0, none⟩) 0 0) [] [] := by
  refine ⟨new_row w, fun b hb => ?_, fun i hi => absurd hi (by simp), fun i hi => absurd hi (by simp), fun i j hi => absurd hi (by simp)⟩
  obtain rfl : w.heap.size = b := by simpa [Value.ownBlock] using hb
  exact .inr ⟨Nat.le_refl _, by simp⟩

theorem same_over {K K' : Nat → Prop} {a b c : World} (h : Same K a b) (h' : Same K' b c) (hk : ∀ x, x < a.heap.size → K' x → K x) : Same K a c :=
  ⟨h'.os.trans h.os, h'.tape.trans h.tape, h'.output.trans h.output, Nat.le_trans h.size h'.size, fun x hx hn => (h'.block x (Nat.lt_of_lt_of_le hx h.size) fun c => hn (hk x hx c)).trans (h.block x hx hn)⟩

/-- A word more. -/
theorem in_step {cp rb N1 n j g cap : Nat} {O1 O : Nat → Prop} {W1 wr w5 w6 : World} {fin : List (List UInt8) × L00Src} {u : Value} {row : List (List UInt8)} {wd : List UInt8} {s7 : L00Src} {o : Obj} (hN : W1.heap.size ≤ N1) (hj : j < n) (hw : spec_l24DrawRows_w (n - (j + 1)) s7 (row ++ [wd]) = some fin) (hO : ∀ b, O1 b → O b)
    (hR : RowAt N1 wr u row) (ho : ∀ b, u.ownBlock = some b → O b) (hs : Same (· = rb) W1 wr) (q : Same (· = rb) wr w5) (hS : SrcAt cp rb O w5 s7) (hown : w6.ownsRow N1 9 1 (.slice (some ⟨g, 0, none⟩) (row.length + 1) cap) (row.length + 1) (rowV row ++ [strV wd])) (hg : (w5.alloc o).grownBy w6 u.ownBlock)
    (hat : u.ownBlock = some g ∨ g = w5.heap.size + 1) (hlt : g < w6.heap.size) : InRel cp rb O1 N1 W1 n fin (.slice (some ⟨g, 0, none⟩) (row.length + 1) cap) (.int .i64 ((j : Int) + 1)) w6 := by
  have h56 : Same (fun b => some b = u.ownBlock) w5 w6 := (Same.alloc _ w5 o).trans (same_grown hg)
  refine ⟨j + 1, row ++ [wd], s7, More O w5 w6, rfl, hj, hw, fun b hb => .inl (hO b hb), hS.ext (h56.mono fun b _ e => ho b e.symm), ?_, fun b hb => ?_, same_over (hs.trans q) h56 fun x hx e => ?_⟩
  · unfold RowAt
    rw [List.length_append, List.length_singleton, show rowV (row ++ [wd]) = rowV row ++ [strV wd] by simp [rowV]]
    exact hown
  · obtain rfl : g = b := by simpa [Value.ownBlock] using hb
    rcases hat with c | c
    · exact .inl (ho _ c)
    · exact .inr ⟨by omega, hlt⟩
  · have := (ownsRow_lt hR e.symm).1; omega

/-- A row more. -/
theorem out_step {F O Oj : Nat → Prop} {cp rb n m g cap : Nat} {w W1 wr w6 : World} {fin : List (List (List UInt8)) × L00Src} {vo vr : Value} {vs : List Value} {out : List (List (List UInt8))} {row : List (List UInt8)} {s : L00Src} {o : Obj} {z : Int} (hz : z ≤ 1000000) (hm : z.toNat = m + 1) (hr : spec_l24DrawRows_r n m s (out ++ [row]) = some fin)
    (hF : ∀ b, F b → O b) (hO : ∀ b, O b → Oj b) (hS : SrcAt cp rb Oj wr s) (hrb : rb < w.heap.size) (hR : RowsAt w.heap.size O W1 vo vs out) (hw : Same (· = rb) w W1) (hs : Same (· = rb) W1 wr) (hro : RowAt W1.heap.size wr vr row) (hor : ∀ b, vr.ownBlock = some b → Oj b)
    (hown : w6.ownsRow w.heap.size 27 1 (.slice (some ⟨g, 0, none⟩) (out.length + 1) cap) (out.length + 1) (vs ++ [vr])) (hg : (wr.alloc o).grownBy w6 vo.ownBlock) (hat : vo.ownBlock = some g ∨ g = wr.heap.size + 1) (hlt : g < w6.heap.size) :
    OutRel cp F rb w n fin (.slice (some ⟨g, 0, none⟩) (out.length + 1) cap) (.int .i64 (z - 1)) w6 := by
  have h56 : Same (fun b => some b = vo.ownBlock) wr w6 := (Same.alloc _ wr o).trans (same_grown hg)
  have hl : (out ++ [row]).length = out.length + 1 := by simp
  refine ⟨z - 1, s, out ++ [row], vs ++ [vr], More Oj wr w6, rfl, by omega, by rw [show (z - 1).toNat = m by omega]; exact hr, fun b hb => .inl (hO b (hF b hb)), hS.ext (h56.mono fun b _ e => hO b (hR.oo b e.symm)), ?_, same_over (hw.trans hs) h56 fun x hx e => ?_⟩
  · exact hR.snoc hs hrb hO (Nat.le_refl _) hw.size hro hor hown hg hat hlt
  · have := (ownsRow_lt hR.ow e.symm).1; omega

theorem made_list (z : Value) (k : Nat) : (madeCells #[z] k).size = k ∧ (madeCells #[z] k).toList = List.replicate k z := by
  have h1 : (madeCells #[z] k).size = k := by simp [madeCells]
  refine ⟨h1, List.ext_getElem (by simp [h1]) fun i h2 h3 => ?_⟩
  have : i % 1 = 0 := Nat.mod_one i
  simp [madeCells, this]

theorem ownsRow_cell {w : World} {N g n c : Nat} {e : TypeId} {xs : List Value} (h : w.ownsRow N e 1 (.slice (some ⟨g, 0, none⟩) n c) n xs) {i : Nat} (hi : i < n) : w.cell? ⟨g, i, none⟩ = some (xs.getD i undef) ∧ w.frozen? ⟨g, i, none⟩ = false := by
  rcases h.2 with ⟨h1, _⟩ | ⟨g', cap, cur, hv, hb, hh, hle, _, hs, ht⟩
  · cases h1
  · cases hv
    constructor
    · rw [cell_of_row w g i cur e (0, 0) hh, ← ht, List.getD_eq_getElem?_getD, List.getElem?_take_of_lt (by omega), Array.getElem?_toList]
      have : i < cur.size := by omega
      rw [Array.getElem?_eq_getElem this]; rfl
    · simp only [World.frozen?, hh]; simp

/-- Rows that are all nil. -/
theorem made_rows {N k : Nat} {O : Nat → Prop} {w : World} (hN : N ≤ w.heap.size) (hk : k ≤ maxLen) : RowsAt N (More O w (w.alloc (.cells (madeCells #[.slice none 0 0] k) 27))) (w.alloc (.cells (madeCells #[.slice none 0 0] k) 27)) (.slice (some ⟨w.heap.size, 0, none⟩) k k) (List.replicate k (.slice none 0 0)) (List.replicate k []) := by
  obtain ⟨h1, h2⟩ := made_list (.slice none 0 0) k
  have hv : ∀ i, i < k → (List.replicate k (Value.slice none 0 0)).getD i undef = .slice none 0 0 := fun i hi => by
    rw [List.getD_eq_getElem?_getD, List.getElem?_eq_getElem (by simpa using hi)]; simp
  have hr : ∀ i, i < k → (List.replicate k ([] : List (List UInt8))).getD i [] = [] := fun i hi => by
    rw [List.getD_eq_getElem?_getD, List.getElem?_eq_getElem (by simpa using hi)]; simp
  refine ⟨⟨by simp, .inr ⟨w.heap.size, k, madeCells #[.slice none 0 0] k, by simp, hN, heap_alloc_new w _, by simp, hk, by simp [h1], ?_⟩⟩, fun b hb => ?_, fun i hi => ?_, fun i hi b hb => ?_, fun i j hi hj hij b hb => ?_⟩
  · rw [h2]; simp
  · obtain rfl : w.heap.size = b := by simpa [Value.ownBlock] using hb
    exact .inr ⟨Nat.le_refl _, by simp⟩
  · have hi' : i < k := by simpa using hi
    rw [hv i hi', hr i hi']
    exact ⟨rfl, .inl ⟨rfl, rfl⟩⟩
  · rw [hv i (by simpa using hi)] at hb; cases hb
  · rw [hv i (by simpa using hi)] at hb; cases hb

theorem ownsRow_put {w : World} {N g n c : Nat} {e : TypeId} {xs : List Value} (h : w.ownsRow N e 1 (.slice (some ⟨g, 0, none⟩) n c) n xs) (i : Nat) (u : Value) : (w.setCell ⟨g, i, none⟩ u).ownsRow N e 1 (.slice (some ⟨g, 0, none⟩) n c) n (xs.set i u) := by
  rcases h.2 with ⟨h1, _⟩ | ⟨g', cap, cur, hv, hb, hh, hle, hm, hs, ht⟩
  · cases h1
  · cases hv
    refine ⟨by simpa using h.1, .inr ⟨g, c, cur.setIfInBounds i u, rfl, hb, Go.heap_setCell_same w g i cur e u hh, hle, hm, by simpa using hs, ?_⟩⟩
    rw [Array.toList_setIfInBounds, ← ht, List.take_set]

theorem set_getD {α : Type} (l : List α) (k i : Nat) (x d : α) (hk : k < l.length) : (l.set k x).getD i d = if i = k then x else l.getD i d := by
  rw [List.getD_eq_getElem?_getD, List.getD_eq_getElem?_getD, List.getElem?_set]
  by_cases h : k = i
  · subst h; simp [hk]
  · rw [if_neg h, if_neg (fun e => h e.symm)]

/-- One of the rows has been put anew. -/
theorem RowsAt.put {N g c k : Nat} {O : Nat → Prop} {w w9 : World} {vs : List Value} {out : List (List (List UInt8))} {v' : Value} {row : List (List UInt8)} (h : RowsAt N O w (.slice (some ⟨g, 0, none⟩) out.length c) vs out) (hk : k < out.length) (hs : Same (fun b => some b = (vs.getD k undef).ownBlock) w w9)
    (hr : RowAt N w9 v' row) (hn : ∀ b, v'.ownBlock = some b → (vs.getD k undef).ownBlock = some b ∨ w.heap.size ≤ b) : RowsAt N (More O w w9) (w9.setCell ⟨g, k, none⟩ v') (.slice (some ⟨g, 0, none⟩) out.length c) (vs.set k v') (out.set k row) := by
  have hl := h.len
  have hg : ∀ i, (vs.set k v').getD i undef = if i = k then v' else vs.getD i undef := fun i => set_getD vs k i v' undef (by omega)
  have ho : ∀ i, (out.set k row).getD i [] = if i = k then row else out.getD i [] := fun i => set_getD out k i row [] hk
  have hls : (out.set k row).length = out.length := by simp
  have hgb : (Value.slice (some ⟨g, 0, none⟩) out.length c).ownBlock = some g := rfl
  have hgl := ownsRow_lt h.ow hgb
  have hout : w9.ownsRow N 27 1 (.slice (some ⟨g, 0, none⟩) out.length c) out.length vs := ownsRow_same h.ow hs fun b hb e => h.apart hk e.symm hb
  have hv'g : v'.ownBlock ≠ some g := fun e => by
    rcases hn g e with c1 | c1
    · exact h.apart hk c1 rfl
    · omega
  refine ⟨by rw [hls]; exact ownsRow_put hout k v', fun b hb => .inl (h.oo b hb), fun i hi => ?_, fun i hi b hb => ?_, fun i j hi hj hij b hb => ?_⟩
  · rw [hg, ho]
    by_cases e : i = k
    · rw [if_pos e, if_pos e]
      exact ownsRow_setCell_other (a := ⟨g, k, none⟩) hr hv'g _
    · rw [if_neg e, if_neg e]
      have hi' : i < out.length := by rw [hls] at hi; exact hi
      exact ownsRow_setCell_other (a := ⟨g, k, none⟩) (ownsRow_same (h.row i hi') hs fun b hb e2 => h.dis k i hk hi' (fun c => e c.symm) b e2.symm hb) (fun e2 => h.apart hi' e2 rfl) _
  · rw [hg] at hb
    by_cases e : i = k
    · rw [if_pos e] at hb
      rcases hn b hb with c1 | c1
      · exact .inl (h.ro k hk b c1)
      · exact .inr ⟨c1, (ownsRow_lt hr hb).2⟩
    · rw [if_neg e] at hb
      exact .inl (h.ro i (by rw [hls] at hi; exact hi) b hb)
  · rw [hls] at hi hj
    rw [hg] at hb ⊢
    by_cases e : i = k
    · rw [if_pos e] at hb
      rw [if_neg (by omega)]
      intro hb'
      rcases hn b hb with c1 | c1
      · exact h.dis k j hk hj (by omega) b c1 hb'
      · have := (ownsRow_lt (h.row j hj) hb').2; omega
    · rw [if_neg e] at hb
      by_cases e2 : j = k
      · rw [if_pos e2]
        intro hb'
        rcases hn b hb' with c1 | c1
        · exact h.dis i k hi hk e b hb c1
        · have := (ownsRow_lt (h.row i hi) hb).2; omega
      · rw [if_neg e2]
        exact h.dis i j hi hj hij b hb

theorem same_set {w : World} (a : Addr) (v : Value) : Same (fun b => b = a.block) w (w.setCell a v) := ⟨rfl, rfl, rfl, by simp [World.setCell], fun b _ hn => Go.heap_setCell_other w a b v hn⟩

/-- A word behind one of the rows. -/
theorem put_end {F O : Nat → Prop} {cp rb g c k g2 cap2 : Nat} {w W1 w8 w9 : World} {vs : List Value} {out : List (List (List UInt8))} {s : L00Src} {o : Obj} {row : List (List UInt8)} {wd : List UInt8} (hF : ∀ b, F b → O b) (h0 : Same (· = rb) w W1) (h1 : Same (· = rb) W1 w8) (hrb : rb < w.heap.size) (hS : SrcAt cp rb O w8 s) (h : RowsAt w.heap.size O W1 (.slice (some ⟨g, 0, none⟩) out.length c) vs out) (hk : k < out.length) (hrow : out.getD k [] = row)
    (hown : w9.ownsRow w.heap.size 9 1 (.slice (some ⟨g2, 0, none⟩) (row.length + 1) cap2) (row.length + 1) (rowV row ++ [strV wd])) (hg : (w8.alloc o).grownBy w9 (vs.getD k undef).ownBlock) (hat : (vs.getD k undef).ownBlock = some g2 ∨ g2 = w8.heap.size + 1) :
    RowsEnd cp F rb w (out.set k (row ++ [wd])) s (.returned (.slice (some ⟨g, 0, none⟩) out.length c)) (w9.setCell ⟨g, k, none⟩ (.slice (some ⟨g2, 0, none⟩) (row.length + 1) cap2)) := by
  have h8 := h.same h1 (fun _ x => x) (fun b _ hb _ e => by omega)
  have h89 : Same (fun b => some b = (vs.getD k undef).ownBlock) w8 w9 := (Same.alloc _ w8 o).trans (same_grown hg)
  have hr : RowAt w.heap.size w9 (.slice (some ⟨g2, 0, none⟩) (row.length + 1) cap2) (row ++ [wd]) := by
    unfold RowAt
    rw [List.length_append, List.length_singleton, show rowV (row ++ [wd]) = rowV row ++ [strV wd] by simp [rowV]]
    exact hown
  have hp := h8.put hk h89 hr (fun b hb => by
    obtain rfl : g2 = b := by simpa [Value.ownBlock] using hb
    rcases hat with x | x
    · exact .inl x
    · exact .inr (by omega))
  have hgb : (Value.slice (some ⟨g, 0, none⟩) out.length c).ownBlock = some g := rfl
  have hglt := ownsRow_lt h8.ow hgb
  have hall : Same O w8 (w9.setCell ⟨g, k, none⟩ (.slice (some ⟨g2, 0, none⟩) (row.length + 1) cap2)) := by
    refine (h89.mono fun b _ e => h8.ro k hk b e.symm).trans ((same_set (w := w9) ⟨g, k, none⟩ _).mono fun b _ e => ?_)
    have e' : b = g := e
    rw [e']; exact h8.oo g hgb
  refine ⟨_, vs.set k (.slice (some ⟨g2, 0, none⟩) (row.length + 1) cap2), _, rfl, ?_, hS.ext hall, fun b x => .inl (hF b x), ?_⟩
  · refine same_over (h0.trans h1) ((h89.mono (S' := fun b => w.heap.size ≤ b) fun b _ e => (ownsRow_lt (h8.row k hk) e.symm).1).trans ((same_set (w := w9) ⟨g, k, none⟩ _).mono (S' := fun b => w.heap.size ≤ b) fun b _ e => ?_)) fun x hx e => by omega
    have e' : b = g := e
    omega
  · have hls : (out.set k (row ++ [wd])).length = out.length := by simp
    refine ⟨by have := hp.ow; rw [hls] at this ⊢; exact this, fun b hb => .inl (h8.oo b hb), hp.row, fun i hi b hb => ?_, hp.dis⟩
    rcases hp.ro i hi b hb with x | x
    · exact .inl x
    · exact .inr ⟨x.1, by simpa [World.setCell] using x.2⟩

/-- The first word of one of the rows is another one. -/
theorem set_end {F O : Nat → Prop} {cp rb g c k gr cr : Nat} {w W1 w8 : World} {vs : List Value} {out : List (List (List UInt8))} {s : L00Src} {row : List (List UInt8)} {y : List UInt8} (hF : ∀ b, F b → O b) (h0 : Same (· = rb) w W1) (h1 : Same (· = rb) W1 w8) (hrb : rb < w.heap.size) (hS : SrcAt cp rb O w8 s) (h : RowsAt w.heap.size O W1 (.slice (some ⟨g, 0, none⟩) out.length c) vs out) (hk : k < out.length) (hrow : out.getD k [] = row)
    (hv : vs.getD k undef = .slice (some ⟨gr, 0, none⟩) row.length cr) :
    RowsEnd cp F rb w (out.set k (row.set 0 y)) s (.returned (.slice (some ⟨g, 0, none⟩) out.length c)) (w8.setCell ⟨gr, 0, none⟩ (.string ⟨y.toArray⟩)) := by
  have h8 := h.same h1 (fun _ x => x) (fun b _ hb _ e => by omega)
  have hgb : (vs.getD k undef).ownBlock = some gr := by rw [hv]; rfl
  have hr := h8.row k hk
  rw [hrow, hv] at hr
  have hls : (out.set k (row.set 0 y)).length = out.length := by simp
  have hlt := ownsRow_lt (h8.row k hk) hgb
  have hall : Same O w8 (w8.setCell ⟨gr, 0, none⟩ (.string ⟨y.toArray⟩)) := (same_set (w := w8) ⟨gr, 0, none⟩ _).mono fun b _ e => by
    have e' : b = gr := e
    rw [e']; exact h8.ro k hk gr hgb
  refine ⟨_, vs, _, rfl, ?_, hS.ext hall, fun b x => .inl (hF b x), ?_⟩
  · refine same_over (h0.trans h1) (same_set (w := w8) ⟨gr, 0, none⟩ _) fun x hx e => ?_
    have e' : x = gr := e
    omega
  · have hne : ∀ b, (Value.slice (some ⟨g, 0, none⟩) out.length c).ownBlock = some b → b ≠ gr := fun b hb e => h8.apart hk hgb (by rw [hb, e])
    have hgetD : ∀ i, (out.set k (row.set 0 y)).getD i [] = if i = k then row.set 0 y else out.getD i [] := fun i => set_getD out k i _ [] hk
    refine ⟨?_, fun b hb => .inl (h8.oo b hb), fun i hi => ?_, fun i hi b hb => .inl (h8.ro i (by rw [hls] at hi; exact hi) b hb), fun i j hi hj => h8.dis i j (by rw [hls] at hi; exact hi) (by rw [hls] at hj; exact hj)⟩
    · rw [hls]
      exact ownsRow_setCell_other (a := ⟨gr, 0, none⟩) h8.ow (fun e => hne gr e rfl) _
    · have hi' : i < out.length := by rw [hls] at hi; exact hi
      rw [hgetD]
      by_cases e : i = k
      · rw [if_pos e, e, hv]
        unfold RowAt
        rw [List.length_set, show rowV (row.set 0 y) = (rowV row).set 0 (strV y) by simp [rowV]]
        exact ownsRow_put hr 0 _
      · rw [if_neg e]
        exact ownsRow_setCell_other (a := ⟨gr, 0, none⟩) (h8.row i hi') (fun e2 => h8.dis k i hk hi' (fun c => e c.symm) gr hgb e2) _

attribute [local irreducible] Calls in
set_option maxHeartbeats 16000000 in
theorem rows_walk {F : Nat → Prop} {cp rb : Nat} {w : World} {s s' s1 s2 s3 s4 s5 : L00Src} {n0 n k0 : Int} {b : Bool} {out res : List (List (List UInt8))} (hS : SrcAt cp rb F w s) (hn : n ≤ 1000000) (hk : k0 ≤ 1000000)
    (h1 : spec_l00Src_pick s 5 = some (n0, s1)) (h2 : spec_l00Src_one s1 16 = some (b, s2)) (h3 : (if b then (spec_l00Src_pick s2 2).bind fun y_3 => some (IntKind.i64.wrap (8 + y_3.1), y_3.2) else some (n0, s2)) = some (n, s3))
    (h4 : spec_l00Src_pick s3 6 = some (k0, s4)) (h5 : spec_l24DrawRows_r n.toNat k0.toNat s4 [] = some (out, s5)) (h6 : spec_l24DrawRows_t n s5 out = some (res, s')) :
    Calls Tryz.prog 28 #[.pointer (some ⟨rb, 0, none⟩)] w (RowsEnd cp F rb w res s') := by
  have hw0 : rb < w.heap.size := hS.lt
  have H1 := Lib.hid h1
  have H2 := Lib.hid h2
  have H4 := Lib.hid h4
  have H5 := Lib.hid h5
  have H6 := Lib.hid h6
  clear h1 h2 h4 h5 h6
  cases b with
  | false =>
    obtain ⟨rfl, rfl⟩ : n0 = n ∧ s2 = s3 := by simpa using h3
    clear h3
    go_enter Tryz.func28, Tryz.ntmps28
    go_wp2_with (go_at_call 29; refine (pick_calls H1.out (hS.ext (Same.alloc _ w _))).mono ?_; rintro e w1 ⟨rfl, q1, S1⟩)
    go_wp2_with (go_at_call 30; refine (one_calls H2.out S1).mono ?_; rintro e w2 ⟨rfl, q2, S2⟩)
    go_wp2_with (go_at_call 29; refine (pick_calls H4.out S2).mono ?_; rintro e w3 ⟨rfl, q3, S3⟩)
    have hR3 : RowsAt w.heap.size (More F w (w.alloc (.cells #[] 27))) w3 (.slice (some ⟨w.heap.size, 0, none⟩) 0 0) [] [] := (rows_start w F).same ((q1.trans q2).trans q3) (fun _ h => h) (fun b _ hb _ e => by omega)
    have hq3 : Same (· = rb) w w3 := (((Same.alloc _ w _).trans q1).trans q2).trans q3
    clear q1 q2 q3 S1 S2 hS
    go_loopw [3, 5] (fun vo k wr => OutRel cp F rb w n0.toNat (out, s5) vo k wr) (fun _ k _ => kOf k)
    case atStart => exact ⟨k0, s4, [], [], _, rfl, hk, H5.out, fun b h => .inl h, S3, hR3, hq3⟩
    case round =>
      obtain ⟨W1, hW1⟩ : ∃ W, W = wr := ⟨wr, rfl⟩
      subst hW1
      obtain ⟨z, sz, oz, vs, O, rfl, hz, hr, hF, hS, hR, hsame⟩ := hrel
      clear hR3 hq3 S3
      by_cases hz0 : 0 < z
      · obtain ⟨m, hm⟩ : ∃ m, z.toNat = m + 1 := ⟨z.toNat - 1, by omega⟩
        rw [hm] at hr
        unfold spec_l24DrawRows_r at hr
        obtain ⟨⟨row, s6⟩, hw, hr⟩ := bd_some hr
        obtain ⟨hlen, hr⟩ := ck_some hr
        have HW := Lib.hid hw
        have HR := Lib.hid hr
        have HO := Lib.hid hR
        have HS := Lib.hid hsame
        clear hw hr hR hsame
        go_wp2
        have hO1 : ∀ b, O b → More O W1 (W1.alloc (.cells #[] 9)) b := fun b c => .inl c
        have S4 := hS.ext (Same.alloc O W1 (.cells #[] 9))
        go_loopw [6, 7] (fun vr i w => InRel cp rb O W1.heap.size W1 n0.toNat (row, s6) vr i w) (fun _ i _ => n0.toNat - kOf i)
        case atStart => exact ⟨0, [], sz, _, rfl, Nat.zero_le _, HW.out, hO1, S4, new_row W1, fun b hb => by
          obtain rfl : W1.heap.size = b := by simpa [Value.ownBlock] using hb
          exact .inr ⟨Nat.le_refl _, by simp⟩, Same.alloc _ W1 _⟩
        case round =>
          clear S4 hO1
          obtain ⟨j, rw_, sj, Oj, rfl, hj, hwj, hOj, hSj, hRj, hoj, hsj⟩ := hrel
          by_cases hjn : j < n0.toNat
          · rw [show n0.toNat - j = (n0.toNat - (j + 1)) + 1 by omega] at hwj
            unfold spec_l24DrawRows_w at hwj
            obtain ⟨⟨wd, s7⟩, hwd, hwj⟩ := bd_some hwj
            obtain ⟨hlj, hwj⟩ := ck_some hwj
            have hlj := of_decide_eq_true hlj
            have HWD := Lib.hid hwd
            have HWJ := Lib.hid hwj
            have HRJ := Lib.hid hRj
            have HSJ := Lib.hid hsj
            have HOJ := Lib.hid hoj
            have hlt : (j : Int) < n0 := by omega
            have hRlt : ∀ b, u6.ownBlock = some b → ¬ b = rb := fun b hb e => by
              have := (ownsRow_lt hRj hb).1; have := hS.lt; omega
            have HRL := Lib.hid hRlt
            obtain ⟨i0, hi, hz0, hz1, hz2⟩ := info_parts str_info
            clear hwd hwj hRj hsj hoj hRlt
            go_wp2_with (first | (go_at_call 37; refine (word_calls HWD.out hSj).mono ?_; rintro e w5 ⟨rfl, q5, S5⟩) | (at_builtin; refine wpList_append_lies _ rfl _ _ 27 rfl W1.heap.size 9 i0 _ 1 16 und_strs hi hz0 hz1 hz2 rfl (by omega) u6 rw_.length (rowV rw_) rfl ((ownsRow_same HRJ.out q5 HRL.out).alloc _) ⟨w5.heap.size, 0, none⟩ 1 1 [strV wd] rfl rfl (World.news_of_block (cs := #[strV wd]) (t := 9) (fr := (0, 0)) (heap_alloc_new w5 _)) (by simp [strV, Value.oneCell']) (by omega) (by unfold maxLen; omega) (by omega) (by simp; have := q5.size; have := HSJ.out.size; omega) (w5.heap.size + 1) (by simp) ?_; intro g cap w6 hown6 hgrow6 hat6 hlt6))
            go_roundw
            case rel => exact in_step (Nat.le_refl _) hjn HWJ.out hOj HRJ.out HOJ.out HSJ.out q5 S5 hown6 hgrow6 hat6 hlt6
            case measure => simp [kOf]; omega
          · rw [show n0.toNat - j = 0 by omega] at hwj
            obtain ⟨rfl, rfl⟩ : rw_ = row ∧ sj = s6 := by simpa [spec_l24DrawRows_w] using hwj
            have hlt : ¬ (j : Int) < n0 := by omega
            clear hwj
            have HRJ := Lib.hid hRj
            have HSJ := Lib.hid hsj
            have HOJ := Lib.hid hoj
            clear hRj hsj hoj
            obtain ⟨ua, uc, hu⟩ := ownsRow_slice HRJ.out
            subst hu
            have hOW := ownsRow_same HO.out.ow HSJ.out (fun b hb e => by have := (ownsRow_lt HO.out.ow hb).1; omega)
            have HOW := Lib.hid hOW
            have hlen1 := of_decide_eq_true hlen
            obtain ⟨i0, hi, hz0, hz1, hz2⟩ := info_parts strs_info
            clear hOW
            go_wp2_with (at_builtin; refine wpList_append_lies _ rfl _ _ 24 rfl w.heap.size 27 i0 _ 1 24 und_rows hi hz0 hz1 hz2 rfl (by omega) u3 oz.length vs rfl (HOW.out.alloc _) ⟨wr.heap.size, 0, none⟩ 1 1 [.slice ua rw_.length uc] rfl rfl (World.news_of_block (cs := #[.slice ua rw_.length uc]) (t := 27) (fr := (0, 0)) (heap_alloc_new wr _)) (by simp [Value.oneCell']) (by omega) (by unfold maxLen; omega) (by omega) (by simp; have := HSJ.out.size; have := HS.out.size; omega) (wr.heap.size + 1) (by simp) ?_; intro g cap w6 hown6 hgrow6 hat6 hlt6)
            go_roundw
            case rel => exact out_step hz hm HR.out hF hOj hSj hw0 HO.out HS.out HSJ.out HRJ.out HOJ.out hown6 hgrow6 hat6 hlt6
            case measure => simp [kOf]; omega
      · rw [show z.toNat = 0 by omega] at hr
        obtain ⟨rfl, rfl⟩ : oz = out ∧ sz = s5 := by simpa [spec_l24DrawRows_r] using hr
        clear hr
        obtain ⟨va, vc, hvo⟩ := ownsRow_slice hR.ow
        subst hvo
        have HO := Lib.hid hR
        have HS := Lib.hid hsame
        clear hR hsame
        have h6 := H6.out
        unfold spec_l24DrawRows_t at h6
        by_cases hl0 : 0 < oz.length
        · rw [decide_eq_true (show (0 : Int) < (oz.length : Int) by omega), if_pos rfl] at h6
          obtain ⟨⟨q1, s6⟩, p1, h6⟩ := bd_some h6
          obtain ⟨⟨q, s7⟩, p2, h6⟩ := bd_some h6
          simp only at p1 p2 h6
          have P1 := Lib.hid p1
          have P2 := Lib.hid p2
          clear p1 p2
          by_cases q0 : q = 0
          · subst q0
            rw [if_pos (by rfl)] at h6
            obtain ⟨hix, h6⟩ := ck_some h6
            obtain ⟨hlx, h6⟩ := ck_some h6
            have hlx := of_decide_eq_true hlx
            obtain ⟨k, rfl, hkl⟩ : ∃ k : Nat, q1 = (k : Int) ∧ k < oz.length := by
              simp only [ixOk, Bool.and_eq_true, decide_eq_true_eq] at hix
              exact ⟨q1.toNat, by omega, by omega⟩
            rw [Int.toNat_natCast] at hlx h6
            have hrow := HO.out.row k hkl
            generalize hrwk : oz.getD k [] = rwk at hlx h6 hrow
            have HRK := Lib.hid hrwk
            have H7 := Lib.hid h6
            clear h6 hix hrwk
            obtain ⟨g, rfl⟩ : ∃ g, va = some ⟨g, 0, none⟩ := by
              rcases HO.out.ow.2 with ⟨h1, h2⟩ | ⟨g, cap, cur, hv, _⟩
              · omega
              · cases hv; exact ⟨g, rfl⟩
            obtain ⟨ra, rc, hrv⟩ := ownsRow_slice hrow
            rw [hrv] at hrow
            have HRV := Lib.hid hrv
            have HRW := Lib.hid hrow
            clear hrow hrv
            go_wp2_with (go_at_call 29; refine (pick_calls P1.out hS).mono ?_; rintro e w7 ⟨rfl, r1, S6⟩)
            have hcell : ∀ w', Same (· = rb) W1 w' → w'.cell? ⟨g, k, none⟩ = some (.slice ra rwk.length rc) := fun w' hw => by
              have := (ownsRow_cell (ownsRow_same HO.out.ow hw (fun b hb e => by have := (ownsRow_lt HO.out.ow hb).1; omega)) hkl).1
              rw [HRV.out] at this
              exact this
            have HC := Lib.hid hcell
            have hown1 : ∀ w', Same (· = rb) W1 w' → w'.ownsRow w.heap.size 9 1 (.slice ra rwk.length rc) rwk.length (rowV rwk) := fun w' hw => by
              have := HRW.out
              refine ownsRow_same this hw (fun b hb e => ?_)
              have := (ownsRow_lt this hb).1; omega
            have hfar : ∀ (w8 w9 : World) (o : Obj), Same (· = rb) W1 w8 → (w8.alloc o).grownBy w9 (Value.slice ra rwk.length rc).ownBlock → w9.cell? ⟨g, k, none⟩ = some (.slice ra rwk.length rc) ∧ w9.frozen? ⟨g, k, none⟩ = false := fun w8 w9 o h1 h2 => by
              have h3 := ownsRow_same (ownsRow_same HO.out.ow h1 (fun b hb e => by have := (ownsRow_lt HO.out.ow hb).1; omega)) ((Same.alloc _ w8 o).trans (same_grown h2)) (fun b hb e => by
                have hk' := HO.out.apart hkl (b := b) (by rw [HRV.out]; exact e.symm)
                exact hk' hb)
              have h4 := ownsRow_cell h3 hkl
              rw [HRV.out] at h4
              exact h4
            have HOWN := Lib.hid hown1
            have HFAR := Lib.hid hfar
            obtain ⟨i0, hi, hz0, hz1, hz2⟩ := info_parts str_info
            have hsz1 : ∀ w', Same (· = rb) W1 w' → w.heap.size ≤ w'.heap.size := fun w' h => Nat.le_trans HS.out.size h.size
            have HSZ := Lib.hid hsz1
            clear hcell hown1 hfar hsz1
            go_wp2_with (first | (go_at_call 29; refine (pick_calls P2.out S6).mono ?_; rintro e w8 ⟨rfl, r2, S7⟩; have c8 := HC.out w8 (r1.trans r2)) | (at_builtin; refine wpList_append_lies _ rfl _ _ 27 rfl w.heap.size 9 i0 _ 1 16 und_strs hi hz0 hz1 hz2 rfl (by omega) _ rwk.length (rowV rwk) rfl ((HOWN.out _ (r1.trans r2)).alloc _) ⟨w8.heap.size, 0, none⟩ 1 1 [strV [120]] rfl rfl (World.news_of_block (cs := #[strV [120]]) (t := 9) (fr := (0, 0)) (heap_alloc_new w8 _)) (by simp [strV, Value.oneCell']) (by omega) (by unfold maxLen; omega) (by omega) (by simp; have := HSZ.out _ (r1.trans r2); omega) (w8.heap.size + 1) (by simp) ?_; intro g2 cap2 w9 hown9 hgrow9 hat9 hlt9; obtain ⟨c9, f9⟩ := HFAR.out _ _ _ (r1.trans r2) hgrow9))
            go_ret
            have h7 := H7.out
            obtain ⟨rfl, rfl⟩ : oz.set k (rwk ++ [[120]]) = res ∧ s7 = s' := by simpa using h7
            exact put_end hF HS.out (r1.trans r2) hw0 S7 (by simpa using HO.out) hkl HRK.out hown9 (by rw [HRV.out]; exact hgrow9) (by rw [HRV.out]; exact hat9)
          by_cases q0' : q = 1
          · subst q0'
            rw [if_neg (by decide), if_pos (by rfl)] at h6
            by_cases hn0 : 0 < n0
            · rw [decide_eq_true hn0, if_pos rfl] at h6
              obtain ⟨hix, h6⟩ := ck_some h6
              obtain ⟨⟨v, s8⟩, p3, h6⟩ := bd_some h6
              obtain ⟨y, p4, h6⟩ := bd_some h6
              obtain ⟨hlx, h6⟩ := ck_some h6
              simp only at p3 p4
              obtain ⟨k, rfl, hkl⟩ : ∃ k : Nat, q1 = (k : Int) ∧ k < oz.length := by
                simp only [ixOk, Bool.and_eq_true, decide_eq_true_eq] at hix
                exact ⟨q1.toNat, by omega, by omega⟩
              rw [Int.toNat_natCast] at hlx h6
              have hrow := HO.out.row k hkl
              generalize hrwk : oz.getD k [] = rwk at hlx h6 hrow
              have hl0' : 0 < rwk.length := by
                simp only [ixOk, Bool.and_eq_true, decide_eq_true_eq] at hlx
                omega
              have HRK := Lib.hid hrwk
              have H7 := Lib.hid h6
              have P3 := Lib.hid p3
              have P4 := Lib.hid p4
              clear h6 hix hrwk p3 p4 hlx
              obtain ⟨g, rfl⟩ : ∃ g, va = some ⟨g, 0, none⟩ := by
                rcases HO.out.ow.2 with ⟨h1, h2⟩ | ⟨g, cap, cur, hv, _⟩
                · omega
                · cases hv; exact ⟨g, rfl⟩
              obtain ⟨gr, rc, hrv⟩ : ∃ gr rc, vs.getD k undef = .slice (some ⟨gr, 0, none⟩) rwk.length rc := by
                rcases hrow.2 with ⟨h1, h2⟩ | ⟨g, cap, cur, hv, _⟩
                · omega
                · exact ⟨g, cap, hv⟩
              rw [hrv] at hrow
              have hgne : gr ≠ g := fun e => HO.out.apart hkl (b := gr) (by rw [hrv]; rfl) (by rw [e]; rfl)
              have hgr0 : ∀ w', Same (· = rb) W1 w' → RowsAt w.heap.size O w' (.slice (some ⟨g, 0, none⟩) oz.length vc) vs oz := fun w' hw => HO.out.same hw (fun _ h => h) (fun b _ hb _ e => by omega)
              have hcell : ∀ w', Same (· = rb) W1 w' → w'.cell? ⟨g, k, none⟩ = some (.slice (some ⟨gr, 0, none⟩) rwk.length rc) := fun w' hw => by
                have := (ownsRow_cell (hgr0 w' hw).ow hkl).1
                rw [hrv] at this
                exact this
              have hrc : ∀ w', Same (· = rb) W1 w' → w'.cell? ⟨gr, 0, none⟩ = some ((rowV rwk).getD 0 undef) ∧ w'.frozen? ⟨gr, 0, none⟩ = false := fun w' hw => by
                have h2 := (hgr0 w' hw).row k hkl
                rw [hrv] at h2
                have h3 : oz.getD k [] = rwk := HRK.out
                rw [h3] at h2
                exact ownsRow_cell h2 hl0'
              have hset : ∀ (w' : World) (u : Value), w'.cell? ⟨g, k, none⟩ = some (.slice (some ⟨gr, 0, none⟩) rwk.length rc) → (w'.setCell ⟨gr, 0, none⟩ u).cell? ⟨g, k, none⟩ = some (.slice (some ⟨gr, 0, none⟩) rwk.length rc) := fun w' u h => by
                rw [← h]
                exact cell_of_block (Go.heap_setCell_other w' ⟨gr, 0, none⟩ g u (fun e => hgne e.symm))
              have HRV := Lib.hid hrv
              have HC := Lib.hid hcell
              have HRC := Lib.hid hrc
              have HSET := Lib.hid hset
              clear hrow hrv hcell hgr0 hrc hset
              go_wp2_with (go_at_call 29; refine (pick_calls P1.out hS).mono ?_; rintro e w7 ⟨rfl, r1, S6⟩)
              go_wp2_with (go_at_call 29; refine (pick_calls P2.out S6).mono ?_; rintro e w8 ⟨rfl, r2, S7⟩)
              have hc8 : w8.drew.cell? ⟨g, k, none⟩ = some (.slice (some ⟨gr, 0, none⟩) rwk.length rc) := HC.out w8 (r1.trans r2)
              have S7' := S7.still (Same.drew _ w8)
              go_region_held3 (fun w' => w'.cell? ⟨g, k, none⟩ = some (.slice (some ⟨gr, 0, none⟩) rwk.length rc)) (first | exact hc8 | exact hc9 | exact hc10 | exact HSET.out _ _ hc10) (first
                | (go_at_call 29; refine (pick_calls P3.out S7').mono ?_; rintro e w9 ⟨rfl, r3, S8⟩; have hc9 := HC.out w9 ((r1.trans r2).trans ((Same.drew _ w8).trans r3)))
                | (go_at_call 35; refine (blanks_calls P4.out (S8.gt.mono (Same.refl _ _) fun _ _ c => c.elim)).mono ?_; rintro e w10 ⟨rfl, r4⟩; have hc10 := HC.out w10 (((r1.trans r2).trans ((Same.drew _ w8).trans r3)).trans (r4.mono fun _ _ c => c.elim)); obtain ⟨d10, f10⟩ := HRC.out w10 (((r1.trans r2).trans ((Same.drew _ w8).trans r3)).trans (r4.mono fun _ _ c => c.elim))))
              go_wp2
              go_ret
              have h7 := H7.out
              obtain ⟨rfl, rfl⟩ : oz.set k (rwk.set 0 y) = res ∧ s8 = s' := by simpa using h7
              exact set_end hF HS.out (((r1.trans r2).trans ((Same.drew _ w8).trans r3)).trans (r4.mono fun _ _ c => c.elim)) hw0 (S8.still r4) (by simpa using HO.out) hkl HRK.out HRV.out
            · rw [decide_eq_false hn0, if_neg Bool.false_ne_true] at h6
              obtain ⟨rfl, rfl⟩ : oz = res ∧ s7 = s' := by simpa using h6
              clear h6
              go_wp2_with (go_at_call 29; refine (pick_calls P1.out hS).mono ?_; rintro e w7 ⟨rfl, r1, S6⟩)
              go_wp2_with (go_at_call 29; refine (pick_calls P2.out S6).mono ?_; rintro e w8 ⟨rfl, r2, S7⟩)
              go_ret
              exact ⟨_, vs, O, rfl, (HS.out.trans r1).trans r2, S7, hF, HO.out.same (r1.trans r2) (fun _ h => h) (fun b _ hb _ e => by omega)⟩
          by_cases q2 : q = 2
          · subst q2
            rw [if_neg (by decide), if_neg (by decide), if_pos (by rfl)] at h6
            obtain ⟨⟨v, s8⟩, p3, h6⟩ := bd_some h6
            obtain ⟨hm, h6⟩ := ck_some h6
            simp only [Bool.and_eq_true, decide_eq_true_eq] at hm p3
            have P3 := Lib.hid p3
            have H7 := Lib.hid h6
            clear p3 h6
            go_wp2_with (go_at_call 29; refine (pick_calls P1.out hS).mono ?_; rintro e w7 ⟨rfl, r1, S6⟩)
            go_wp2_with (go_at_call 29; refine (pick_calls P2.out S6).mono ?_; rintro e w8 ⟨rfl, r2, S7⟩)
            obtain ⟨k, hk⟩ : ∃ k : Nat, IntKind.i64.wrap (60 + v) = (k : Int) := ⟨(IntKind.i64.wrap (60 + v)).toNat, by omega⟩
            have hw : wrap64 (60 + v) = (k : Int) := by rw [← hk, IntKind.wrap_i64]; unfold wrap64; rfl
            rw [hk] at hm
            have HW := Lib.hid hw
            have hkl : k ≤ 1099511627776 := by omega
            obtain ⟨i0, hi, hz0, hz1, hz2⟩ := info_parts strs_info
            have HK := Lib.hid hk
            clear hw hm hk
            go_wp2_with (first | (go_at_call 29; refine (pick_calls P3.out S7).mono ?_; rintro e w9 ⟨rfl, r3, S8⟩) | (refine wpList_make_row _ rfl _ _ 24 rfl 27 i0 _ und_rows hi hz0 hz1 rfl .i64 .i64 k (congrArg (Value.int .i64) HW.out) (congrArg (Value.int .i64) HW.out) (by rw [hz2]; omega) (by omega) ?_))
            go_ret
            have h7 := H7.out
            rw [HK.out, Int.toNat_natCast] at h7
            obtain ⟨rfl, rfl⟩ : List.replicate k [] = res ∧ s8 = s' := by simpa using h7
            exact ⟨_, _, _, rfl, (((HS.out.trans r1).trans r2).trans r3).trans (Same.alloc _ w9 _), S8.ext (Same.alloc _ w9 _), fun b c => .inl (hF b c), made_rows (Nat.le_trans HS.out.size (Nat.le_trans r1.size (Nat.le_trans r2.size r3.size))) (by unfold maxLen; omega)⟩
          · rw [if_neg (by simpa using q0), if_neg (by simpa using q0'), if_neg (by simpa using q2)] at h6
            obtain ⟨rfl, rfl⟩ : oz = res ∧ s7 = s' := by simpa using h6
            clear h6
            go_wp2_with (go_at_call 29; refine (pick_calls P1.out hS).mono ?_; rintro e w7 ⟨rfl, r1, S6⟩)
            go_wp2_with (go_at_call 29; refine (pick_calls P2.out S6).mono ?_; rintro e w8 ⟨rfl, r2, S7⟩)
            go_ret
            exact ⟨_, vs, O, rfl, (HS.out.trans r1).trans r2, S7, hF, HO.out.same (r1.trans r2) (fun _ h => h) (fun b _ hb _ e => by omega)⟩
        · rw [decide_eq_false (show ¬ (0 : Int) < (oz.length : Int) by omega), if_neg Bool.false_ne_true] at h6
          obtain ⟨rfl, rfl⟩ : oz = res ∧ sz = s' := by simpa using h6
          clear h6
          go_wp2
          go_ret
          exact ⟨_, vs, O, rfl, HS.out, hS, hF, HO.out⟩
  | true =>
    rw [if_pos rfl] at h3
    obtain ⟨⟨v0, s3'⟩, h3a, h3⟩ := bd_some h3
    obtain ⟨rfl, rfl⟩ : IntKind.i64.wrap (8 + v0) = n ∧ s3' = s3 := by simpa using h3
    have H3 := Lib.hid h3a
    clear h3 h3a
    obtain ⟨nn, hnn⟩ : ∃ nn, nn = IntKind.i64.wrap (8 + v0) := ⟨_, rfl⟩
    have hw8 : wrap64 (8 + v0) = nn := by rw [hnn, IntKind.wrap_i64]; unfold wrap64; rfl
    rw [← hnn] at hn H5 H6
    clear hnn
    go_enter Tryz.func28, Tryz.ntmps28
    go_wp2_with (go_at_call 29; refine (pick_calls H1.out (hS.ext (Same.alloc _ w _))).mono ?_; rintro e w1 ⟨rfl, q1, S1⟩)
    go_wp2_with (go_at_call 30; refine (one_calls H2.out S1).mono ?_; rintro e w2 ⟨rfl, q2, S2⟩)
    go_wp2_with (go_at_call 29; refine (pick_calls H3.out S2).mono ?_; rintro e w2b ⟨rfl, q2b, S2b⟩)
    rw [hw8]
    go_wp2_with (go_at_call 29; refine (pick_calls H4.out S2b).mono ?_; rintro e w3 ⟨rfl, q3, S3⟩)
    have hR3 : RowsAt w.heap.size (More F w (w.alloc (.cells #[] 27))) w3 (.slice (some ⟨w.heap.size, 0, none⟩) 0 0) [] [] := (rows_start w F).same (((q1.trans q2).trans q2b).trans q3) (fun _ h => h) (fun b _ hb _ e => by omega)
    have hq3 : Same (· = rb) w w3 := ((((Same.alloc _ w _).trans q1).trans q2).trans q2b).trans q3
    clear q1 q2 q2b q3 S1 S2 S2b hS
    go_loopw [3, 5] (fun vo k wr => OutRel cp F rb w nn.toNat (out, s5) vo k wr) (fun _ k _ => kOf k)
    case atStart => exact ⟨k0, s4, [], [], _, rfl, hk, H5.out, fun b h => .inl h, S3, hR3, hq3⟩
    case round =>
      obtain ⟨W1, hW1⟩ : ∃ W, W = wr := ⟨wr, rfl⟩
      subst hW1
      obtain ⟨z, sz, oz, vs, O, rfl, hz, hr, hF, hS, hR, hsame⟩ := hrel
      clear hR3 hq3 S3
      by_cases hz0 : 0 < z
      · obtain ⟨m, hm⟩ : ∃ m, z.toNat = m + 1 := ⟨z.toNat - 1, by omega⟩
        rw [hm] at hr
        unfold spec_l24DrawRows_r at hr
        obtain ⟨⟨row, s6⟩, hw, hr⟩ := bd_some hr
        obtain ⟨hlen, hr⟩ := ck_some hr
        have HW := Lib.hid hw
        have HR := Lib.hid hr
        have HO := Lib.hid hR
        have HS := Lib.hid hsame
        clear hw hr hR hsame
        go_wp2
        have hO1 : ∀ b, O b → More O W1 (W1.alloc (.cells #[] 9)) b := fun b c => .inl c
        have S4 := hS.ext (Same.alloc O W1 (.cells #[] 9))
        go_loopw [6, 7] (fun vr i w => InRel cp rb O W1.heap.size W1 nn.toNat (row, s6) vr i w) (fun _ i _ => nn.toNat - kOf i)
        case atStart => exact ⟨0, [], sz, _, rfl, Nat.zero_le _, HW.out, hO1, S4, new_row W1, fun b hb => by
          obtain rfl : W1.heap.size = b := by simpa [Value.ownBlock] using hb
          exact .inr ⟨Nat.le_refl _, by simp⟩, Same.alloc _ W1 _⟩
        case round =>
          clear S4 hO1
          obtain ⟨j, rw_, sj, Oj, rfl, hj, hwj, hOj, hSj, hRj, hoj, hsj⟩ := hrel
          by_cases hjn : j < nn.toNat
          · rw [show nn.toNat - j = (nn.toNat - (j + 1)) + 1 by omega] at hwj
            unfold spec_l24DrawRows_w at hwj
            obtain ⟨⟨wd, s7⟩, hwd, hwj⟩ := bd_some hwj
            obtain ⟨hlj, hwj⟩ := ck_some hwj
            have hlj := of_decide_eq_true hlj
            have HWD := Lib.hid hwd
            have HWJ := Lib.hid hwj
            have HRJ := Lib.hid hRj
            have HSJ := Lib.hid hsj
            have HOJ := Lib.hid hoj
            have hlt : (j : Int) < nn := by omega
            have hRlt : ∀ b, u6.ownBlock = some b → ¬ b = rb := fun b hb e => by
              have := (ownsRow_lt hRj hb).1; have := hS.lt; omega
            have HRL := Lib.hid hRlt
            obtain ⟨i0, hi, hz0, hz1, hz2⟩ := info_parts str_info
            clear hwd hwj hRj hsj hoj hRlt
            go_wp2_with (first | (go_at_call 37; refine (word_calls HWD.out hSj).mono ?_; rintro e w5 ⟨rfl, q5, S5⟩) | (at_builtin; refine wpList_append_lies _ rfl _ _ 27 rfl W1.heap.size 9 i0 _ 1 16 und_strs hi hz0 hz1 hz2 rfl (by omega) u6 rw_.length (rowV rw_) rfl ((ownsRow_same HRJ.out q5 HRL.out).alloc _) ⟨w5.heap.size, 0, none⟩ 1 1 [strV wd] rfl rfl (World.news_of_block (cs := #[strV wd]) (t := 9) (fr := (0, 0)) (heap_alloc_new w5 _)) (by simp [strV, Value.oneCell']) (by omega) (by unfold maxLen; omega) (by omega) (by simp; have := q5.size; have := HSJ.out.size; omega) (w5.heap.size + 1) (by simp) ?_; intro g cap w6 hown6 hgrow6 hat6 hlt6))
            go_roundw
            case rel => exact in_step (Nat.le_refl _) hjn HWJ.out hOj HRJ.out HOJ.out HSJ.out q5 S5 hown6 hgrow6 hat6 hlt6
            case measure => simp [kOf]; omega
          · rw [show nn.toNat - j = 0 by omega] at hwj
            obtain ⟨rfl, rfl⟩ : rw_ = row ∧ sj = s6 := by simpa [spec_l24DrawRows_w] using hwj
            have hlt : ¬ (j : Int) < nn := by omega
            clear hwj
            have HRJ := Lib.hid hRj
            have HSJ := Lib.hid hsj
            have HOJ := Lib.hid hoj
            clear hRj hsj hoj
            obtain ⟨ua, uc, hu⟩ := ownsRow_slice HRJ.out
            subst hu
            have hOW := ownsRow_same HO.out.ow HSJ.out (fun b hb e => by have := (ownsRow_lt HO.out.ow hb).1; omega)
            have HOW := Lib.hid hOW
            have hlen1 := of_decide_eq_true hlen
            obtain ⟨i0, hi, hz0, hz1, hz2⟩ := info_parts strs_info
            clear hOW
            go_wp2_with (at_builtin; refine wpList_append_lies _ rfl _ _ 24 rfl w.heap.size 27 i0 _ 1 24 und_rows hi hz0 hz1 hz2 rfl (by omega) u3 oz.length vs rfl (HOW.out.alloc _) ⟨wr.heap.size, 0, none⟩ 1 1 [.slice ua rw_.length uc] rfl rfl (World.news_of_block (cs := #[.slice ua rw_.length uc]) (t := 27) (fr := (0, 0)) (heap_alloc_new wr _)) (by simp [Value.oneCell']) (by omega) (by unfold maxLen; omega) (by omega) (by simp; have := HSJ.out.size; have := HS.out.size; omega) (wr.heap.size + 1) (by simp) ?_; intro g cap w6 hown6 hgrow6 hat6 hlt6)
            go_roundw
            case rel => exact out_step hz hm HR.out hF hOj hSj hw0 HO.out HS.out HSJ.out HRJ.out HOJ.out hown6 hgrow6 hat6 hlt6
            case measure => simp [kOf]; omega
      · rw [show z.toNat = 0 by omega] at hr
        obtain ⟨rfl, rfl⟩ : oz = out ∧ sz = s5 := by simpa [spec_l24DrawRows_r] using hr
        clear hr
        obtain ⟨va, vc, hvo⟩ := ownsRow_slice hR.ow
        subst hvo
        have HO := Lib.hid hR
        have HS := Lib.hid hsame
        clear hR hsame
        have h6 := H6.out
        unfold spec_l24DrawRows_t at h6
        by_cases hl0 : 0 < oz.length
        · rw [decide_eq_true (show (0 : Int) < (oz.length : Int) by omega), if_pos rfl] at h6
          obtain ⟨⟨q1, s6⟩, p1, h6⟩ := bd_some h6
          obtain ⟨⟨q, s7⟩, p2, h6⟩ := bd_some h6
          simp only at p1 p2 h6
          have P1 := Lib.hid p1
          have P2 := Lib.hid p2
          clear p1 p2
          by_cases q0 : q = 0
          · subst q0
            rw [if_pos (by rfl)] at h6
            obtain ⟨hix, h6⟩ := ck_some h6
            obtain ⟨hlx, h6⟩ := ck_some h6
            have hlx := of_decide_eq_true hlx
            obtain ⟨k, rfl, hkl⟩ : ∃ k : Nat, q1 = (k : Int) ∧ k < oz.length := by
              simp only [ixOk, Bool.and_eq_true, decide_eq_true_eq] at hix
              exact ⟨q1.toNat, by omega, by omega⟩
            rw [Int.toNat_natCast] at hlx h6
            have hrow := HO.out.row k hkl
            generalize hrwk : oz.getD k [] = rwk at hlx h6 hrow
            have HRK := Lib.hid hrwk
            have H7 := Lib.hid h6
            clear h6 hix hrwk
            obtain ⟨g, rfl⟩ : ∃ g, va = some ⟨g, 0, none⟩ := by
              rcases HO.out.ow.2 with ⟨h1, h2⟩ | ⟨g, cap, cur, hv, _⟩
              · omega
              · cases hv; exact ⟨g, rfl⟩
            obtain ⟨ra, rc, hrv⟩ := ownsRow_slice hrow
            rw [hrv] at hrow
            have HRV := Lib.hid hrv
            have HRW := Lib.hid hrow
            clear hrow hrv
            go_wp2_with (go_at_call 29; refine (pick_calls P1.out hS).mono ?_; rintro e w7 ⟨rfl, r1, S6⟩)
            have hcell : ∀ w', Same (· = rb) W1 w' → w'.cell? ⟨g, k, none⟩ = some (.slice ra rwk.length rc) := fun w' hw => by
              have := (ownsRow_cell (ownsRow_same HO.out.ow hw (fun b hb e => by have := (ownsRow_lt HO.out.ow hb).1; omega)) hkl).1
              rw [HRV.out] at this
              exact this
            have HC := Lib.hid hcell
            have hown1 : ∀ w', Same (· = rb) W1 w' → w'.ownsRow w.heap.size 9 1 (.slice ra rwk.length rc) rwk.length (rowV rwk) := fun w' hw => by
              have := HRW.out
              refine ownsRow_same this hw (fun b hb e => ?_)
              have := (ownsRow_lt this hb).1; omega
            have hfar : ∀ (w8 w9 : World) (o : Obj), Same (· = rb) W1 w8 → (w8.alloc o).grownBy w9 (Value.slice ra rwk.length rc).ownBlock → w9.cell? ⟨g, k, none⟩ = some (.slice ra rwk.length rc) ∧ w9.frozen? ⟨g, k, none⟩ = false := fun w8 w9 o h1 h2 => by
              have h3 := ownsRow_same (ownsRow_same HO.out.ow h1 (fun b hb e => by have := (ownsRow_lt HO.out.ow hb).1; omega)) ((Same.alloc _ w8 o).trans (same_grown h2)) (fun b hb e => by
                have hk' := HO.out.apart hkl (b := b) (by rw [HRV.out]; exact e.symm)
                exact hk' hb)
              have h4 := ownsRow_cell h3 hkl
              rw [HRV.out] at h4
              exact h4
            have HOWN := Lib.hid hown1
            have HFAR := Lib.hid hfar
            obtain ⟨i0, hi, hz0, hz1, hz2⟩ := info_parts str_info
            have hsz1 : ∀ w', Same (· = rb) W1 w' → w.heap.size ≤ w'.heap.size := fun w' h => Nat.le_trans HS.out.size h.size
            have HSZ := Lib.hid hsz1
            clear hcell hown1 hfar hsz1
            go_wp2_with (first | (go_at_call 29; refine (pick_calls P2.out S6).mono ?_; rintro e w8 ⟨rfl, r2, S7⟩; have c8 := HC.out w8 (r1.trans r2)) | (at_builtin; refine wpList_append_lies _ rfl _ _ 27 rfl w.heap.size 9 i0 _ 1 16 und_strs hi hz0 hz1 hz2 rfl (by omega) _ rwk.length (rowV rwk) rfl ((HOWN.out _ (r1.trans r2)).alloc _) ⟨w8.heap.size, 0, none⟩ 1 1 [strV [120]] rfl rfl (World.news_of_block (cs := #[strV [120]]) (t := 9) (fr := (0, 0)) (heap_alloc_new w8 _)) (by simp [strV, Value.oneCell']) (by omega) (by unfold maxLen; omega) (by omega) (by simp; have := HSZ.out _ (r1.trans r2); omega) (w8.heap.size + 1) (by simp) ?_; intro g2 cap2 w9 hown9 hgrow9 hat9 hlt9; obtain ⟨c9, f9⟩ := HFAR.out _ _ _ (r1.trans r2) hgrow9))
            go_ret
            have h7 := H7.out
            obtain ⟨rfl, rfl⟩ : oz.set k (rwk ++ [[120]]) = res ∧ s7 = s' := by simpa using h7
            exact put_end hF HS.out (r1.trans r2) hw0 S7 (by simpa using HO.out) hkl HRK.out hown9 (by rw [HRV.out]; exact hgrow9) (by rw [HRV.out]; exact hat9)
          by_cases q0' : q = 1
          · subst q0'
            rw [if_neg (by decide), if_pos (by rfl)] at h6
            by_cases hnn : 0 < nn
            · rw [decide_eq_true hnn, if_pos rfl] at h6
              obtain ⟨hix, h6⟩ := ck_some h6
              obtain ⟨⟨v, s8⟩, p3, h6⟩ := bd_some h6
              obtain ⟨y, p4, h6⟩ := bd_some h6
              obtain ⟨hlx, h6⟩ := ck_some h6
              simp only at p3 p4
              obtain ⟨k, rfl, hkl⟩ : ∃ k : Nat, q1 = (k : Int) ∧ k < oz.length := by
                simp only [ixOk, Bool.and_eq_true, decide_eq_true_eq] at hix
                exact ⟨q1.toNat, by omega, by omega⟩
              rw [Int.toNat_natCast] at hlx h6
              have hrow := HO.out.row k hkl
              generalize hrwk : oz.getD k [] = rwk at hlx h6 hrow
              have hl0' : 0 < rwk.length := by
                simp only [ixOk, Bool.and_eq_true, decide_eq_true_eq] at hlx
                omega
              have HRK := Lib.hid hrwk
              have H7 := Lib.hid h6
              have P3 := Lib.hid p3
              have P4 := Lib.hid p4
              clear h6 hix hrwk p3 p4 hlx
              obtain ⟨g, rfl⟩ : ∃ g, va = some ⟨g, 0, none⟩ := by
                rcases HO.out.ow.2 with ⟨h1, h2⟩ | ⟨g, cap, cur, hv, _⟩
                · omega
                · cases hv; exact ⟨g, rfl⟩
              obtain ⟨gr, rc, hrv⟩ : ∃ gr rc, vs.getD k undef = .slice (some ⟨gr, 0, none⟩) rwk.length rc := by
                rcases hrow.2 with ⟨h1, h2⟩ | ⟨g, cap, cur, hv, _⟩
                · omega
                · exact ⟨g, cap, hv⟩
              rw [hrv] at hrow
              have hgne : gr ≠ g := fun e => HO.out.apart hkl (b := gr) (by rw [hrv]; rfl) (by rw [e]; rfl)
              have hgr0 : ∀ w', Same (· = rb) W1 w' → RowsAt w.heap.size O w' (.slice (some ⟨g, 0, none⟩) oz.length vc) vs oz := fun w' hw => HO.out.same hw (fun _ h => h) (fun b _ hb _ e => by omega)
              have hcell : ∀ w', Same (· = rb) W1 w' → w'.cell? ⟨g, k, none⟩ = some (.slice (some ⟨gr, 0, none⟩) rwk.length rc) := fun w' hw => by
                have := (ownsRow_cell (hgr0 w' hw).ow hkl).1
                rw [hrv] at this
                exact this
              have hrc : ∀ w', Same (· = rb) W1 w' → w'.cell? ⟨gr, 0, none⟩ = some ((rowV rwk).getD 0 undef) ∧ w'.frozen? ⟨gr, 0, none⟩ = false := fun w' hw => by
                have h2 := (hgr0 w' hw).row k hkl
                rw [hrv] at h2
                have h3 : oz.getD k [] = rwk := HRK.out
                rw [h3] at h2
                exact ownsRow_cell h2 hl0'
              have hset : ∀ (w' : World) (u : Value), w'.cell? ⟨g, k, none⟩ = some (.slice (some ⟨gr, 0, none⟩) rwk.length rc) → (w'.setCell ⟨gr, 0, none⟩ u).cell? ⟨g, k, none⟩ = some (.slice (some ⟨gr, 0, none⟩) rwk.length rc) := fun w' u h => by
                rw [← h]
                exact cell_of_block (Go.heap_setCell_other w' ⟨gr, 0, none⟩ g u (fun e => hgne e.symm))
              have HRV := Lib.hid hrv
              have HC := Lib.hid hcell
              have HRC := Lib.hid hrc
              have HSET := Lib.hid hset
              clear hrow hrv hcell hgr0 hrc hset
              go_wp2_with (go_at_call 29; refine (pick_calls P1.out hS).mono ?_; rintro e w7 ⟨rfl, r1, S6⟩)
              go_wp2_with (go_at_call 29; refine (pick_calls P2.out S6).mono ?_; rintro e w8 ⟨rfl, r2, S7⟩)
              have hc8 : w8.drew.cell? ⟨g, k, none⟩ = some (.slice (some ⟨gr, 0, none⟩) rwk.length rc) := HC.out w8 (r1.trans r2)
              have S7' := S7.still (Same.drew _ w8)
              go_region_held3 (fun w' => w'.cell? ⟨g, k, none⟩ = some (.slice (some ⟨gr, 0, none⟩) rwk.length rc)) (first | exact hc8 | exact hc9 | exact hc10 | exact HSET.out _ _ hc10) (first
                | (go_at_call 29; refine (pick_calls P3.out S7').mono ?_; rintro e w9 ⟨rfl, r3, S8⟩; have hc9 := HC.out w9 ((r1.trans r2).trans ((Same.drew _ w8).trans r3)))
                | (go_at_call 35; refine (blanks_calls P4.out (S8.gt.mono (Same.refl _ _) fun _ _ c => c.elim)).mono ?_; rintro e w10 ⟨rfl, r4⟩; have hc10 := HC.out w10 (((r1.trans r2).trans ((Same.drew _ w8).trans r3)).trans (r4.mono fun _ _ c => c.elim)); obtain ⟨d10, f10⟩ := HRC.out w10 (((r1.trans r2).trans ((Same.drew _ w8).trans r3)).trans (r4.mono fun _ _ c => c.elim))))
              go_wp2
              go_ret
              have h7 := H7.out
              obtain ⟨rfl, rfl⟩ : oz.set k (rwk.set 0 y) = res ∧ s8 = s' := by simpa using h7
              exact set_end hF HS.out (((r1.trans r2).trans ((Same.drew _ w8).trans r3)).trans (r4.mono fun _ _ c => c.elim)) hw0 (S8.still r4) (by simpa using HO.out) hkl HRK.out HRV.out
            · rw [decide_eq_false hnn, if_neg Bool.false_ne_true] at h6
              obtain ⟨rfl, rfl⟩ : oz = res ∧ s7 = s' := by simpa using h6
              clear h6
              go_wp2_with (go_at_call 29; refine (pick_calls P1.out hS).mono ?_; rintro e w7 ⟨rfl, r1, S6⟩)
              go_wp2_with (go_at_call 29; refine (pick_calls P2.out S6).mono ?_; rintro e w8 ⟨rfl, r2, S7⟩)
              go_ret
              exact ⟨_, vs, O, rfl, (HS.out.trans r1).trans r2, S7, hF, HO.out.same (r1.trans r2) (fun _ h => h) (fun b _ hb _ e => by omega)⟩
          by_cases q2 : q = 2
          · subst q2
            rw [if_neg (by decide), if_neg (by decide), if_pos (by rfl)] at h6
            obtain ⟨⟨v, s8⟩, p3, h6⟩ := bd_some h6
            obtain ⟨hm, h6⟩ := ck_some h6
            simp only [Bool.and_eq_true, decide_eq_true_eq] at hm p3
            have P3 := Lib.hid p3
            have H7 := Lib.hid h6
            clear p3 h6
            go_wp2_with (go_at_call 29; refine (pick_calls P1.out hS).mono ?_; rintro e w7 ⟨rfl, r1, S6⟩)
            go_wp2_with (go_at_call 29; refine (pick_calls P2.out S6).mono ?_; rintro e w8 ⟨rfl, r2, S7⟩)
            obtain ⟨k, hk⟩ : ∃ k : Nat, IntKind.i64.wrap (60 + v) = (k : Int) := ⟨(IntKind.i64.wrap (60 + v)).toNat, by omega⟩
            have hw : wrap64 (60 + v) = (k : Int) := by rw [← hk, IntKind.wrap_i64]; unfold wrap64; rfl
            rw [hk] at hm
            have HW := Lib.hid hw
            have hkl : k ≤ 1099511627776 := by omega
            obtain ⟨i0, hi, hz0, hz1, hz2⟩ := info_parts strs_info
            have HK := Lib.hid hk
            clear hw hm hk
            go_wp2_with (first | (go_at_call 29; refine (pick_calls P3.out S7).mono ?_; rintro e w9 ⟨rfl, r3, S8⟩) | (refine wpList_make_row _ rfl _ _ 24 rfl 27 i0 _ und_rows hi hz0 hz1 rfl .i64 .i64 k (congrArg (Value.int .i64) HW.out) (congrArg (Value.int .i64) HW.out) (by rw [hz2]; omega) (by omega) ?_))
            go_ret
            have h7 := H7.out
            rw [HK.out, Int.toNat_natCast] at h7
            obtain ⟨rfl, rfl⟩ : List.replicate k [] = res ∧ s8 = s' := by simpa using h7
            exact ⟨_, _, _, rfl, (((HS.out.trans r1).trans r2).trans r3).trans (Same.alloc _ w9 _), S8.ext (Same.alloc _ w9 _), fun b c => .inl (hF b c), made_rows (Nat.le_trans HS.out.size (Nat.le_trans r1.size (Nat.le_trans r2.size r3.size))) (by unfold maxLen; omega)⟩
          · rw [if_neg (by simpa using q0), if_neg (by simpa using q0'), if_neg (by simpa using q2)] at h6
            obtain ⟨rfl, rfl⟩ : oz = res ∧ s7 = s' := by simpa using h6
            clear h6
            go_wp2_with (go_at_call 29; refine (pick_calls P1.out hS).mono ?_; rintro e w7 ⟨rfl, r1, S6⟩)
            go_wp2_with (go_at_call 29; refine (pick_calls P2.out S6).mono ?_; rintro e w8 ⟨rfl, r2, S7⟩)
            go_ret
            exact ⟨_, vs, O, rfl, (HS.out.trans r1).trans r2, S7, hF, HO.out.same (r1.trans r2) (fun _ h => h) (fun b _ hb _ e => by omega)⟩
        · rw [decide_eq_false (show ¬ (0 : Int) < (oz.length : Int) by omega), if_neg Bool.false_ne_true] at h6
          obtain ⟨rfl, rfl⟩ : oz = res ∧ sz = s' := by simpa using h6
          clear h6
          go_wp2
          go_ret
          exact ⟨_, vs, O, rfl, HS.out, hS, hF, HO.out⟩

theorem rows_calls {F : Nat → Prop} {cp rb : Nat} {w : World} {s s' : L00Src} {res : List (List (List UInt8))} (h : spec_l24DrawRows s = some (res, s')) (hS : SrcAt cp rb F w s) :
    Calls Tryz.prog 28 #[.pointer (some ⟨rb, 0, none⟩)] w (RowsEnd cp F rb w res s') := by
  unfold spec_l24DrawRows at h
  obtain ⟨⟨n0, s1⟩, h1, h⟩ := bd_some h
  obtain ⟨⟨b, s2⟩, h2, h⟩ := bd_some h
  obtain ⟨⟨n, s3⟩, h3, h⟩ := bd_some h
  obtain ⟨⟨k0, s4⟩, h4, h⟩ := bd_some h
  obtain ⟨hk, h⟩ := ck_some h
  obtain ⟨⟨out, s5⟩, h5, h⟩ := bd_some h
  simp only [Bool.and_eq_true, decide_eq_true_eq] at hk
  exact rows_walk hS hk.1 hk.2 h1 h2 h3 h4 h5 h

/-! ### The contract -/

def byteK : List AV → Option (List UInt8)
  | [] => some []
  | .int .u8 n :: r => if ((n.toNat.toUInt8).toNat : Int) = n then (byteK r).map (n.toNat.toUInt8 :: ·) else none
  | _ :: _ => none

theorem byteK_map : ∀ l : List UInt8, byteK (List.map byteAV l) = some l
  | [] => rfl
  | c :: r => by
    have e : ((c.toNat : Int).toNat.toUInt8) = c := by rw [Int.toNat_natCast]; exact UInt8.ofNat_toNat
    show (if (((c.toNat : Int).toNat.toUInt8).toNat : Int) = (c.toNat : Int) then (byteK (List.map byteAV r)).map ((c.toNat : Int).toNat.toUInt8 :: ·) else none) = _
    rw [e, if_pos rfl, byteK_map r]; rfl

theorem byteK_eq : ∀ {els : List AV} {l : List UInt8}, byteK els = some l → els = List.map byteAV l
  | [], l, h => by simp [byteK] at h; subst h; rfl
  | a :: r, l, h => by
    cases a with
    | int k n =>
      cases k <;> simp [byteK] at h
      obtain ⟨h1, l', h2, rfl⟩ := h
      rw [byteK_eq h2]
      show _ = byteAV _ :: _
      unfold byteAV
      rw [show (((n.toNat.toUInt8).toNat : Nat) : Int) = n by simpa using h1]
    | _ => simp [byteK] at h

noncomputable def rowsF : List AV → Rs
  | [.mem 3 [.agg [.sl 1 cs, .int .i64 a, .int .u64 d]] 0] => match (byteK cs).bind fun c => spec_l24DrawRows ⟨c, a, d⟩ with
    | some y => ⟨true, .fresh 1 (List.map (slE 1 AV.str) y.1), [.mem 3 [L00Src_av y.2] 0]⟩
    | none => Rs.bad
  | _ => Rs.bad

noncomputable def c_spec_l24DrawRows : Ctr := ⟨[.io], false, rowsF⟩

theorem Fs_spec_l24DrawRows {s_ : L00Src} {y_ : (List (List (List UInt8))) × L00Src} (h : spec_l24DrawRows s_ = some y_) : c_spec_l24DrawRows.F [.mem 3 [L00Src_av s_] 0] = ⟨true, .fresh 1 (List.map (slE 1 AV.str) y_.1), [.mem 3 [L00Src_av y_.2] 0]⟩ := by
  show (match (byteK (List.map byteAV s_.code_)).bind fun c => spec_l24DrawRows ⟨c, s_.at_, s_.seed_⟩ with
    | some y => (⟨true, .fresh 1 (List.map (slE 1 AV.str) y.1), [.mem 3 [L00Src_av y.2] 0]⟩ : Rs)
    | none => Rs.bad) = _
  rw [byteK_map, Option.bind_some, h]
theorem M_spec_l24DrawRows : c_spec_l24DrawRows.modes = [.io] := rfl
theorem Fl_spec_l24DrawRows : c_spec_l24DrawRows.flat = false := rfl
attribute [go_sem] M_spec_l24DrawRows Fl_spec_l24DrawRows

theorem rowsF_inv {args : List AV} (h : (rowsF args).ok = true) : ∃ s y, spec_l24DrawRows s = some y ∧ args = [.mem 3 [L00Src_av s] 0] := by
  unfold rowsF at h
  split at h
  · rename_i cs a d
    split at h
    · rename_i y hy
      cases hc : byteK cs with
      | none => rw [hc] at hy; cases hy
      | some c =>
        rw [hc, Option.bind_some] at hy
        exact ⟨⟨c, a, d⟩, y, hy, by rw [byteK_eq hc]; rfl⟩
    · cases h
  · cases h

theorem row_VR {S : Nat → Prop} {w : World} {N : Nat} {v : Value} {l : List (List UInt8)} (h : RowAt N w v l) (hS : ∀ b, v.ownBlock = some b → ¬ S b) : VR S w v (slE 1 AV.str l) := by
  show VR S w v (.sl 1 (List.map AV.str l))
  rcases h.2 with ⟨rfl, hn⟩ | ⟨g, cap, cur, rfl, hb, hh, hle, _, hs, ht⟩
  · have : l = [] := List.length_eq_zero_iff.1 hn
    subst this
    exact .sl 0 0 (fun _ _ => undef) rfl (Nat.le_refl _) (by omega) (fun h => absurd h (by simp)) (fun i hi => absurd hi (by simp)) (fun i j hi => absurd hi (by simp)) (fun i j hi => absurd hi (by simp))
  · have one : ∀ i, i < l.length → (List.map AV.str l).getD i .any = .str (l.getD i []) := fun i hi => by
      rw [List.getD_eq_getElem?_getD, List.getElem?_map, List.getD_eq_getElem?_getD, List.getElem?_eq_getElem hi]; rfl
    have hget : ∀ i, i < l.length → cur[i]? = some (strV (l.getD i [])) := fun i hi => by
      have h1 : (cur.toList.take (l.length * 1))[i]? = (rowV l)[i]? := by rw [ht]
      rw [List.getElem?_take_of_lt (by omega), Array.getElem?_toList] at h1
      rw [h1]
      unfold rowV
      rw [List.getElem?_map, List.getD_eq_getElem?_getD, List.getElem?_eq_getElem hi]; rfl
    refine .sl g 0 (fun i j => cur.getD i undef) (by simp) hle (by omega) (fun _ => ⟨rfl, hS g rfl⟩) (fun i hi => ?_) (fun i j hi hj => ?_) (fun i j hi hj => ?_)
    · rw [one i (by simpa using hi)]; exact ⟨rfl, rfl⟩
    · obtain rfl : j = 0 := by omega
      rw [Nat.zero_add, Nat.mul_one, Nat.add_zero, cell_of_row w g i cur _ (0, 0) hh, Array.getD_eq_getD_getElem?, hget i (by simpa using hi)]; rfl
    · obtain rfl : j = 0 := by omega
      have hi' : i < l.length := by simpa using hi
      rw [one i hi', Array.getD_eq_getD_getElem?, hget i hi']
      exact .str

theorem s_spec_l24DrawRows : Sound Tryz.prog 28 c_spec_l24DrawRows := by
  refine ⟨fun e => Bool.noConfusion e, fun F g0 w args vargs hsh hsz hfr hok => ⟨fun e => Bool.noConfusion e, ?_⟩⟩
  obtain ⟨s, y, hy, rfl⟩ := rowsF_inv hok
  have h0 := arg_VR hfr (i := 0) (by simp)
  rw [vargs_one hsz]
  generalize vargs.getD 0 undef = x at h0
  have hob : obGet (paramKey 0) (initOb 0 [AV.mem 3 [L00Src_av s] 0]) = some ⟨3, [L00Src_av s]⟩ := by rw [initOb_paramKey]; rfl
  have hx : x = .pointer (some ⟨g0.β (paramKey 0), 0, none⟩) := by
    obtain ⟨h, hh, _, hv⟩ := h0
    have hh : obGet (paramKey 0) (initOb 0 [AV.mem 3 [L00Src_av s] 0]) = some h := hh
    rw [hob] at hh
    cases hh
    rw [hv]; rfl
  subst hx
  have hhome := hfr.home (paramKey 0) _ hob
  have hcp : 0 < g0.cap (paramKey 0) := Nat.lt_of_lt_of_le (by simp) hhome.len
  have hliv : liv g0 (initOb 0 [AV.mem 3 [L00Src_av s] 0]) (paramKey 0) := ⟨⟨_, hob⟩, hcp⟩
  have hsub : ∀ b, OwnS (g0.β (paramKey 0)) F b → SetOf F g0 (initOb 0 [AV.mem 3 [L00Src_av s] 0]) b := by
    rintro b (h | h)
    · exact .inr ⟨paramKey 0, hliv, h.symm⟩
    · exact .inl h
  have hS : SrcAt (g0.cap (paramKey 0)) (g0.β (paramKey 0)) F w s :=
    ⟨fun b hb => hfr.fb b hb, fun h => hfr.nF _ hliv h, hhome.lt hcp, hhome.mono (Same.refl _ _) (fun _ => rfl) fun b _ c => hsub b c, hfr.tab.mono (Same.refl _ _) fun b _ c => hsub b c⟩
  have he := Go.Proofs.enters_of (P := Tryz.prog) Tryz.func28 (by kernel_rfl) rfl
  unfold Invokes
  rw [he]
  rw [Fs_spec_l24DrawRows hy]
  refine (rows_calls hy hS).mono ?_
  rintro e' w' ⟨vo, vs, O, rfl, hs, hS', hFO, hR⟩
  -- the blocks that come back: the source under its parameter's key, the rows under key 0
  have hlen := hR.len
  have hrb : g0.β (paramKey 0) < w.heap.size := hS.lt
  obtain ⟨bo, co, hvo, hco, hrow⟩ : ∃ bo co, (vo = .slice (some ⟨bo, 0, none⟩) y.1.length co ∨ (co = 0 ∧ vo = .slice none 0 0)) ∧ (0 < co → w.heap.size ≤ bo ∧ vo.ownBlock = some bo) ∧ ∀ S : Nat → Prop, (∀ i, i < y.1.length → ∀ b, (vs.getD i undef).ownBlock = some b → ¬ S b) → Home S w' bo co 1 (List.map (slE 1 AV.str) y.1) := by
    have one : ∀ i, i < y.1.length → (List.map (slE 1 AV.str) y.1).getD i .any = slE 1 AV.str (y.1.getD i []) := fun i hi => by
      rw [List.getD_eq_getElem?_getD, List.getElem?_map, List.getD_eq_getElem?_getD, List.getElem?_eq_getElem hi]; rfl
    rcases hR.ow.2 with ⟨h1, h2⟩ | ⟨g, cap, cur, h1, h2, h3, h4, h5, h6, h7⟩
    · refine ⟨0, 0, .inr ⟨rfl, h1⟩, fun h => absurd h (by omega), fun S hS => ⟨Nat.le_refl _, by simp [h2], fun i hi => ?_, fun h => absurd h (by omega)⟩⟩
      simp at hi; omega
    · refine ⟨g, cap, .inl h1, fun _ => ⟨h2, by rw [h1]; rfl⟩, fun S hS => ⟨Nat.le_refl _, by simpa using h4, fun i hi => ?_, fun _ => ⟨cur, _, (0, 0), h3, .inl rfl, h6, fun i j hi hj => ?_⟩⟩⟩
      · rw [one i (by simpa using hi)]; exact ⟨rfl, rfl⟩
      · have hi' : i < y.1.length := by simpa using hi
        obtain rfl : j = 0 := by omega
        rw [one i hi', Nat.mul_one, Nat.add_zero]
        have hc : cur.getD i undef = vs.getD i undef := by
          rw [← h7, Array.getD_eq_getD_getElem?, List.getD_eq_getElem?_getD, List.getElem?_take_of_lt (by omega), Array.getElem?_toList]
        rw [hc]
        exact row_VR (hR.row i hi') (hS i hi')
  have hpk : paramKey 0 = 31 := rfl
  rw [hpk] at hrb hob hcp hliv hS hS' hs
  have hob0 : ∀ (a b : Hm), obGet 0 [(0, a), (31, b)] = some a := fun _ _ => rfl
  have hob1 : ∀ (a b : Hm), obGet 31 [(0, a), (31, b)] = some b := fun _ _ => rfl
  have only : ∀ (a b : Hm) k h, obGet k [(0, a), (31, b)] = some h → (k = 0 ∧ h = a) ∨ (k = 31 ∧ h = b) := by
    intro a b k h hg
    simp only [obGet, cond_eq_if, beq_iff_eq] at hg
    split at hg
    · rename_i e; cases hg; exact .inl ⟨e.symm, rfl⟩
    · split at hg
      · rename_i e; cases hg; exact .inr ⟨e.symm, rfl⟩
      · cases hg
  have hF' : ∀ b, F b → b < w.heap.size := hfr.fb
  have hset : ∀ b, SetOf F ⟨fun k => if k = 0 then bo else g0.β k, fun k => if k = 0 then co else g0.cap k⟩ [(0, ⟨1, List.map (slE 1 AV.str) y.1⟩), (31, ⟨3, [L00Src_av y.2]⟩)] b → F b ∨ (b = bo ∧ 0 < co) ∨ b = g0.β 31 := by
    rintro b (h | ⟨k, ⟨⟨h, hg⟩, hp⟩, e⟩)
    · exact .inl h
    · rcases only _ _ _ _ hg with ⟨rfl, _⟩ | ⟨rfl, _⟩
      · exact .inr (.inl ⟨e.symm, hp⟩)
      · exact .inr (.inr e.symm)
  refine ⟨vo, ⟨fun k => if k = 0 then bo else g0.β k, fun k => if k = 0 then co else g0.cap k⟩, [(0, ⟨1, List.map (slE 1 AV.str) y.1⟩), (31, ⟨3, [L00Src_av y.2]⟩)], fun _ => 0, rfl, ⟨?_, fun k h hg => ?_, fun k k' a b e => ?_, fun k a => ?_, fun k a => ?_, ?_, fun i j hi hj _ => ?_, fun i j _ hj e => ?_, fun j hj => ?_⟩⟩
  · exact hs.mono fun b _ e => ⟨31, hliv, e.symm⟩
  · rcases only _ _ _ _ hg with ⟨rfl, rfl⟩ | ⟨rfl, rfl⟩
    · refine hrow _ fun i hi b hb hc => ?_
      have h1 := ownsRow_lt (hR.row i hi) hb
      rcases hset b hc with c | ⟨c, c2⟩ | c
      · have := hF' b c; omega
      · exact hR.apart hi hb (by rw [(hco c2).2, c])
      · omega
    · refine hS'.home.mono (Same.refl _ _) (fun _ => rfl) fun b _ hc => ?_
      rcases hset b hc with c | ⟨c, c2⟩ | c
      · exact .inr (hFO b c)
      · exact .inr (hR.oo b (by rw [(hco c2).2, c]))
      · exact .inl c
  · obtain ⟨⟨h, hg⟩, hp⟩ := a
    obtain ⟨⟨h', hg'⟩, hp'⟩ := b
    rcases only _ _ _ _ hg with ⟨rfl, _⟩ | ⟨rfl, _⟩ <;> rcases only _ _ _ _ hg' with ⟨rfl, _⟩ | ⟨rfl, _⟩
    · rfl
    · have e' : bo = g0.β 31 := e
      have := (hco hp).1; omega
    · have e' : g0.β 31 = bo := e
      have := (hco hp').1; omega
    · rfl
  · obtain ⟨⟨h, hg⟩, hp⟩ := a
    rcases only _ _ _ _ hg with ⟨rfl, _⟩ | ⟨rfl, _⟩
    · intro c
      have c' : F bo := c
      have := hF' _ c'; have := (hco hp).1; omega
    · exact hfr.nF 31 hliv
  · obtain ⟨⟨h, hg⟩, hp⟩ := a
    rcases only _ _ _ _ hg with ⟨rfl, _⟩ | ⟨rfl, _⟩
    · exact .inl (hco hp).1
    · exact .inr ⟨31, hliv, rfl⟩
  · refine ⟨rfl, ?_⟩
    rcases hvo with h | ⟨h1, h2⟩
    · left; rw [h]; simp
    · exact .inr ⟨h1, h2⟩
  · rw [hi.1, hj.1]
  · have e' : 0 = paramKey j := e
    unfold paramKey at e'; omega
  · match j, hj with
    | 0, _ => exact ⟨3, [L00Src_av s], [L00Src_av y.2], .inr ⟨0, 0, rfl, rfl⟩, rfl, rfl, rfl, rfl⟩
    | j + 1, hj => simp [c_spec_l24DrawRows] at hj

end Go.Proofs.YtambhaccpbhnhaaGreatDoor
