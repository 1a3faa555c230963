/- spec.l27Read at this translation: one line by the engine up to its append, the rest by the kit's walk. No condition. -/
import Derived.Test.YtlcabohpeopdcaaGreatDoorLGD
import Derived.WalkKit
import Derived.Lib.Hide
import Derived.Deep.RegionLaw
import Derived.Deep.AppendLies
namespace Go.Proofs.YtlcabohpeopdcaaGreatDoor
open Go Go.RowKit
set_option linter.unusedVariables false
set_option linter.unusedSimpArgs false
set_option maxRecDepth 100000

/-! ### A code cut behind its first statements -/

def tailC : Nat → Code → Code
  | n + 1, .seq _ b => tailC n b
  | _, c => c

theorem tailC_zero (c : Code) : tailC 0 c = c := by cases c <;> rfl

def chkCut (P : Program) (n : Nat) (vm : List Nat) : Nat → Code → IR → Bool
  | 0, _, .skip => true
  | m + 1, .seq a b, .seq a' b' => chk P n vm a a' && chkCut P n vm m b b'
  | _, _, _ => false

theorem exec_cut {F Iow : Nat → Prop} {w0 : World} {g0 : Gh} {o0 : Obs} {ds : List Deferred} {vm : List Nat} {P : Program} {T : Tbl} {n L : Nat} (hT : TSound P T) :
    ∀ (m : Nat) (c : Code) (ir : IR) {Q : Exit → Act → World → Prop} {s : St} {g : Gh} {w : World} {tmps : Array Value}, chkCut P n vm m c ir = true → FX F Iow w0 g0 o0 g w tmps vm [] s → tmps.size = n → (exec T L ir s).2.ok = true →
    (∀ tmps' w' g', tmps'.size = n → FX F Iow w0 g0 o0 g' w' tmps' vm [] (exec T L ir s).2 → Exit.then ((tailC m c).wp P Q) Q (toExit (exec T L ir s).1) ⟨tmps', ds⟩ w') → c.wp P Q ⟨tmps, ds⟩ w
  | 0, c, ir, Q, s, g, w, tmps, hc, h, hn, hok, hK => by
    cases ir <;> first | (simp [chkCut] at hc; done) | skip
    have := hK tmps w g hn h
    rw [tailC_zero] at this
    exact this
  | m + 1, c, ir, Q, s, g, w, tmps, hc, h, hn, hok, hK => by
    cases c <;> first | (simp [chkCut] at hc; done) | skip
    rename_i a b
    cases ir <;> first | (simp [chkCut] at hc; done) | skip
    rename_i a' b'
    simp only [chkCut, Bool.and_eq_true] at hc
    simp only [exec] at hok hK
    have hfst : (exec T L a' s).2.ok = true := by
      revert hok
      generalize exec T L a' s = r
      intro hok
      obtain ⟨e, s'⟩ := r
      cases e
      · have h3 := exec_okm b' hok; exact h3
      · exact hok
      · exact hok
    refine wp_seq (exec_ok hT trivial a a' hc.1 h hn hfst fun tmps' w' g' hn' hfx => ?_)
    revert hok hK hfx
    generalize exec T L a' s = r
    intro hok hK hfx
    obtain ⟨e, s'⟩ := r
    cases e
    · exact exec_cut hT m b b' hc.2 hfx hn' hok hK
    · exact hK _ _ _ hn' hfx
    · exact hK _ _ _ hn' hfx

/-! ### What the reader holds -/

def entC (e : Entry) : List Value := [.int .i64 e.Day, .string ⟨e.What.toArray⟩, .int .i64 e.Value]
def entsC (l : List Entry) : List Value := l.flatMap entC

theorem entsC_len : ∀ l : List Entry, (entsC l).length = l.length * 3
  | [] => rfl
  | e :: l => by
    have := entsC_len l
    simp only [entsC, List.flatMap_cons, List.length_append, List.length_cons] at this ⊢
    rw [this]; simp only [entC, List.length_cons, List.length_nil]; omega

theorem entsC_get : ∀ (l : List Entry) (i j : Nat), i < l.length → j < 3 → (entsC l)[i * 3 + j]? = (entC (l.getD i default))[j]?
  | [], i, j, hi, _ => absurd hi (by simp)
  | e :: l, 0, j, _, hj => by
    simp only [entsC, List.flatMap_cons, Nat.zero_mul, Nat.zero_add, List.getD_cons_zero]
    exact List.getElem?_append_left (by simpa [entC] using hj)
  | e :: l, i + 1, j, hi, hj => by
    have ih := entsC_get l i j (by simpa using hi) hj
    simp only [entsC, List.flatMap_cons, List.getD_cons_succ] at ih ⊢
    rw [List.getElem?_append_right (by simp only [entC, List.length_cons, List.length_nil]; omega), ← ih]
    congr 1
    simp only [entC, List.length_cons, List.length_nil]; omega

/-- The reader r lies in block rb, and its list in a block of its own; both are not older than N. -/
structure LS (N rb : Nat) (w : World) (r : L27R) (v : Value) : Prop where
  blk : ∃ T, w.heap[rb]? = some (.cells #[.string ⟨r.s_.toArray⟩, .int .i64 r.at_, .int .i64 r.stamp_, v] T (0, 0))
  row : w.ownsRow N 31 3 v r.list_.length (entsC r.list_)
  own : v.ownBlock ≠ some rb
  low : N ≤ rb

theorem entry_cell (e : Entry) {j : Nat} (hj : j < 3) {S : Nat → Prop} {w : World} {u : Value} (hu : (entC e)[j]? = some u) : VR S w u ((Entry_av e).cells.getD j .any) := by
  match j, hj with
  | 0, _ => cases hu; exact .int
  | 1, _ => cases hu; exact .str
  | 2, _ => cases hu; exact .int

theorem map_getD {α : Type} [Inhabited α] (f : α → AV) (l : List α) {i : Nat} (hi : i < l.length) : (List.map f l).getD i .any = f (l.getD i default) := by
  rw [List.getD_eq_getElem?_getD, List.getElem?_map, List.getD_eq_getElem?_getD, List.getElem?_eq_getElem hi]; rfl

theorem row_reads {S : Nat → Prop} {w : World} {N n : Nat} {T : TypeId} {v : Value} {l : List Entry} (h : w.ownsRow N T 3 v l.length (entsC l)) (hS : ∀ b, v.ownBlock = some b → ¬ S b) : VR S w v (.sl 3 (List.map Entry_av l)) := by
  obtain ⟨_, h⟩ := h
  rcases h with ⟨rfl, hn⟩ | ⟨g, cap, cur, rfl, hb, hh, hle, _, hs, ht⟩
  · have : l = [] := List.length_eq_zero_iff.1 hn
    subst this
    exact .sl 0 0 (fun _ _ => undef) rfl (Nat.le_refl _) (by omega) (fun h => absurd h (by simp)) (fun i hi => absurd hi (by simp)) (fun i j hi => absurd hi (by simp)) (fun i j hi => absurd hi (by simp))
  · have hget : ∀ i j, i < l.length → j < 3 → cur[i * 3 + j]? = (entC (l.getD i default))[j]? := fun i j hi hj => by
      rw [← entsC_get l i j hi hj, ← ht, List.getElem?_take_of_lt (by omega), Array.getElem?_toList]
    have hsome : ∀ i j, i < l.length → j < 3 → cur[i * 3 + j]? = some (cur.getD (i * 3 + j) undef) := fun i j hi hj => by
      rw [Array.getD_eq_getD_getElem?, hget i j hi hj, List.getElem?_eq_getElem (by simpa [entC] using hj)]; rfl
    refine .sl g 0 (fun i j => cur.getD (i * 3 + j) undef) (by simp) hle (by omega) (fun _ => ⟨rfl, hS g rfl⟩) (fun i hi => ?_) (fun i j hi hj => ?_) (fun i j hi hj => ?_)
    · rw [map_getD _ _ (by simpa using hi)]; exact ⟨rfl, rfl⟩
    · rw [Nat.zero_add, cell_of_row w g (i * 3 + j) cur T (0, 0) hh]
      exact hsome i j (by simpa using hi) hj
    · have hi' : i < l.length := by simpa using hi
      rw [map_getD _ _ hi']
      exact entry_cell _ hj (by rw [← hget i j hi' hj, hsome i j hi' hj])

theorem LS.ptr {S : Nat → Prop} {N rb : Nat} {w : World} {r : L27R} {v : Value} (h : LS N rb w r v) (hS : ¬ S rb) (hv : ∀ b, v.ownBlock = some b → ¬ S b) : VR S w (.pointer (some ⟨rb, 0, none⟩)) (.ptr 4 [L27R_av r] 0 0) := by
  obtain ⟨T, hb⟩ := h.blk
  have hr := row_reads (n := 0) h.row hv
  have one : ∀ {i : Nat}, i < [L27R_av r].length → i = 0 := fun h => by simpa using h
  refine VR.ptr (sz := 4) (els := [L27R_av r]) (i0 := 0) (o0 := 0) rb 0 (fun _ j => (#[Value.string ⟨r.s_.toArray⟩, .int .i64 r.at_, .int .i64 r.stamp_, v] : Array Value).getD j undef) (by omega) (by simp) hS (fun i hi => ?_) (fun i j hi hj => ?_) (fun i j hi hj => ?_)
  · cases one hi; exact ⟨rfl, rfl⟩
  · cases one hi
    rw [Nat.zero_add, Nat.zero_mul, Nat.zero_add, cell_of_row w rb j _ T (0, 0) hb]
    match j, hj with
    | 0, _ => rfl
    | 1, _ => rfl
    | 2, _ => rfl
    | 3, _ => rfl
  · cases one hi
    match j, hj with
    | 0, _ => exact .str
    | 1, _ => exact .int
    | 2, _ => exact .int
    | 3, _ => exact hr

theorem LS.same {N rb : Nat} {w w' : World} {r : L27R} {v : Value} (h : LS N rb w r v) (hs : Same (fun _ => False) w w') : LS N rb w' r v := by
  have lt : ∀ {b : Nat} {o : Obj}, w.heap[b]? = some o → w'.heap[b]? = some o := fun {b o} hb => by
    have : b < w.heap.size := by
      rcases Nat.lt_or_ge b w.heap.size with h' | h'
      · exact h'
      · rw [Array.getElem?_eq_none h'] at hb; cases hb
    rw [hs.block b this (fun c => c), hb]
  refine ⟨?_, ⟨h.row.1, ?_⟩, h.own, h.low⟩
  · obtain ⟨T, hb⟩ := h.blk; exact ⟨T, lt hb⟩
  · rcases h.row.2 with h1 | ⟨g, cap, cur, h1, h2, h3, h4⟩
    · exact .inl h1
    · exact .inr ⟨g, cap, cur, h1, h2, lt h3, h4⟩

theorem line_chk : (match Tryz.f49.body with | some c => chkCut Tryz.prog 130 ir49_v 12 c ir49.body | none => false) = true := by kernel_rfl

theorem line_T : TSound Tryz.prog (look t_spec_l27R_lineA) :=
  look_sound (snd_cons s_39 (snd_cons s_44 (snd_cons s_12 (snd_cons s_spec_l27R_day (snd_cons s_41 (snd_cons s_42 (snd_cons s_43 snd_nil)))))))

/-- What the frame holds behind the cut. -/
structure MidFr (N rb : Nat) (w0 : World) (r : L27R) (v : Value) (q : Int × Int × Entry) (tmps : Array Value) (w : World) (eb : Nat) : Prop where
  size : tmps.size = 130
  t0 : tmps.getD 0 undef = .pointer (some ⟨rb, 0, none⟩)
  t3 : tmps.getD 3 undef = .int .i64 q.1
  t10 : tmps.getD 10 undef = .int .i64 q.2.1
  t9 : tmps.getD 9 undef = .pointer (some ⟨eb, 0, none⟩)
  cell : ∀ j u, (entC q.2.2)[j]? = some u → w.cell? ⟨eb, j, none⟩ = some u
  same : Same (fun _ => False) w0 w
  eb : w0.heap.size ≤ eb

theorem VR_entC {S : Nat → Prop} {w : World} {arr : Array Value} {e : Entry} (h : ∀ j, j < 3 → VR S w (arr.getD j undef) ((Entry_av e).cells.getD j .any)) {j : Nat} {u : Value} (hu : (entC e)[j]? = some u) : arr.getD j undef = u ∧ j < 3 := by
  have hj : j < 3 := by
    rcases Nat.lt_or_ge j 3 with h' | h'
    · exact h'
    · rw [List.getElem?_eq_none (by simpa [entC] using h')] at hu; cases hu
  refine ⟨?_, hj⟩
  have := h j hj
  revert this
  generalize arr.getD j undef = x
  match j, hj with
  | 0, _ => intro h; cases h; cases hu; rfl
  | 1, _ => intro h; cases h; cases hu; rfl
  | 2, _ => intro h; cases h; cases hu; rfl

theorem line_cut {N rb : Nat} {w : World} {r : L27R} {v : Value} {y : Option (Int × Int × Entry)} {c : Code} {R : Ending → World → Prop} (hpre : spec_l27R_lineA r = some y) (hL : LS N rb w r v) (hG : GT (fun _ => False) w)
    (hb : Tryz.f49.body = some c)
    (hnone : y = none → ∀ tmps' w', Same (fun _ => False) w w' → tmps'.getD 2 undef = .bool false → tmps'.size = 130 → bodyPost Tryz.prog Tryz.f49 R .ret ⟨tmps', []⟩ w')
    (hsome : ∀ q, y = some q → ∀ tmps' w' eb, MidFr N rb w r v q tmps' w' eb → (tailC 12 c).wp Tryz.prog (bodyPost Tryz.prog Tryz.f49 R) ⟨tmps', []⟩ w') :
    Calls Tryz.prog 49 #[.pointer (some ⟨rb, 0, none⟩)] w R := by
  refine calls_of_wp Tryz.func49 hb ?_
  have hck := line_chk
  rw [hb] at hck
  simp only at hck
  obtain ⟨L, hpre⟩ := lineA_pre (.pointer (some ⟨rb, 0, none⟩)) hpre
  have hend := hpre L (Nat.le_refl _)
  clear hpre
  rw [Tryz.ntmps49]
  generalize hE : exec (look t_spec_l27R_lineA) L ir49.body _ = res at hend
  have hset : ∀ b, SetOf (fun _ => False) ⟨fun _ => 0, fun _ => 0⟩ ([] : Obs) b → False := by
    rintro b (h | ⟨k, ⟨⟨hm, hk⟩, _⟩, _⟩)
    · exact h
    · cases hk
  have hnl : ∀ k, ¬ liv (⟨fun _ => 0, fun _ => 0⟩ : Gh) ([] : Obs) k := fun k ⟨⟨hm, hk⟩, _⟩ => by cases hk
  have hsz : (#[Value.pointer (some ⟨rb, 0, none⟩)] ++ Array.replicate (130 - (#[Value.pointer (some ⟨rb, 0, none⟩)] : Array Value).size) undef).size = 130 := by simp
  have h0 : (#[Value.pointer (some ⟨rb, 0, none⟩)] ++ Array.replicate (130 - (#[Value.pointer (some ⟨rb, 0, none⟩)] : Array Value).size) undef).getD 0 undef = .pointer (some ⟨rb, 0, none⟩) := by
    rw [app_getD, if_pos (by simp)]; rfl
  have hfx : FX (fun _ => False) (fun _ => False) w ⟨fun _ => 0, fun _ => 0⟩ [] ⟨fun _ => 0, fun _ => 0⟩ w (#[Value.pointer (some ⟨rb, 0, none⟩)] ++ Array.replicate (130 - (#[Value.pointer (some ⟨rb, 0, none⟩)] : Array Value).size) undef) ir49_v []
      ⟨[.ptr 4 [L27R_av r] 0 0, .any, .any, .any, .any, .any, .any, .any, .any, .any, .cv (.pointer (some ⟨rb, 0, none⟩))], [], [], true⟩ := by
    refine ⟨⟨fun k h hk => (by cases hk), fun k k' a => (hnl k a).elim, fun k a => (hnl k a).elim, fun b hb => hb.elim, rfl, rfl, fun i hi => ?_, fun i hi => absurd hi (by simp), fun t ht => ?_, hG.mono (Same.refl _ _) fun b _ c => hset b c⟩, Same.refl _ _, fun k a => (hnl k a).elim, fun b hb => hb.elim, fun k hm _ hg => (by cases hg)⟩
    · match i, hi with
      | 0, _ =>
        show VR _ w ((_ : Array Value).getD 0 undef) _
        rw [h0]
        exact hL.ptr (fun c => hset _ c) fun b _ c => hset b c
      | 1, _ => exact SR.any
      | 2, _ => exact SR.any
      | 3, _ => exact SR.any
      | 4, _ => exact SR.any
      | 5, _ => exact SR.any
      | 6, _ => exact SR.any
      | 7, _ => exact SR.any
      | 8, _ => exact SR.any
      | 9, _ => exact SR.any
      | 10, _ =>
        show VR _ w ((_ : Array Value).getD 0 undef) _
        rw [h0]
        exact VR.cv
    · rw [hsz]
      rcases ht with ht | ht
      · simp only [ir49_v, List.mem_cons, List.not_mem_nil, or_false] at ht
        omega
      · simp at ht
  have hok : res.2.ok = true := by
    cases y with
    | none => exact hend.2.1
    | some q => exact hend.2.1
  refine exec_cut (L := L) (ds := []) line_T 12 c ir49.body hck hfx hsz (by rw [hE]; exact hok) fun tmps' w' g' hn' hfx' => ?_
  rw [hE] at hfx' ⊢
  cases y with
  | none =>
    obtain ⟨h1, _, h2⟩ := hend
    rw [h1]
    have hv := hfx'.vs 1 (by decide)
    rw [h2] at hv
    exact hnone rfl tmps' w' hfx'.same (sr_bool hv) hn'
  | some q =>
    obtain ⟨h1, _, h2, h3, h4, k, h5, h6⟩ := hend
    rw [h1]
    have v2 := hfx'.vs 2 (by decide)
    have v9 := hfx'.vs 9 (by decide)
    have v10 := hfx'.vs 10 (by decide)
    have v8 := hfx'.vs 8 (by decide)
    rw [h2] at v2; rw [h3] at v9; rw [h4] at v10; rw [h5] at v8
    have hH := hfx'.home k _ h6
    obtain ⟨hm, ho, _, hv8⟩ := v8
    rw [h6] at ho
    cases ho
    have hcap : 0 < g'.cap k := hH.len
    obtain ⟨arr, T, fz, hr, hf, hs, hvr⟩ := hH.row hcap
    have hlv : liv g' res.2.ob k := ⟨⟨_, h6⟩, hcap⟩
    have hvr' : ∀ j, j < 3 → VR _ w' (arr.getD j undef) ((Entry_av q.2.2).cells.getD j .any) := fun j hj => by
      have := hvr 0 j (by simp) hj
      rw [Nat.zero_mul, Nat.zero_add] at this
      exact this
    refine hsome q rfl tmps' w' (g'.β k) ⟨hn', ?_, ?_, ?_, ?_, fun j u hu => ?_, hfx'.same, ?_⟩
    · have e : ∀ {x p : Value}, SR (SetOf (fun _ => False) g' res.2.ob) w' g' res.2.ob x (.cv p) → x = p := fun h => by cases h; rfl
      exact e v10
    · have e : ∀ {x : Value}, SR (SetOf (fun _ => False) g' res.2.ob) w' g' res.2.ob x (.int .i64 q.1) → x = .int .i64 q.1 := fun h => by cases h; rfl
      exact e v2
    · have e : ∀ {x : Value}, SR (SetOf (fun _ => False) g' res.2.ob) w' g' res.2.ob x (.int .i64 q.2.1) → x = .int .i64 q.2.1 := fun h => by cases h; rfl
      exact e v9
    · rw [Nat.zero_mul] at hv8; exact hv8
    · obtain ⟨e1, e2⟩ := VR_entC hvr' hu
      rw [cell_of_row w' (g'.β k) j arr T fz hr, ← e1, Array.getD_eq_getD_getElem?, Array.getElem?_eq_getElem (by have hs' : arr.size = g'.cap k * 3 := hs; omega)]; rfl
    · rcases hfx'.hio k hlv with h | h
      · exact h
      · exact h.elim

theorem arr_lit (t : Array Value) {n : Nat} (h : t.size = n) : t = ((List.range n).map fun i => t.getD i undef).toArray := by
  subst h
  apply Array.ext
  · simp
  · intro i h1 h2
    simp [Array.getD_eq_getD_getElem?, Array.getElem?_eq_getElem h1]

theorem ent_info : (Tryz.prog.info? 31).map (fun i => (i.zero, i.size, i.bytes)) = some (some (.agg #[.int .i64 0, .string ⟨#[]⟩, .int .i64 0]), 3, 32) := by kernel_rfl

theorem und_list : Tryz.prog.underlying 24 = some (.slice 31) := by kernel_rfl

theorem own_lt {w : World} {N n : Nat} {T : TypeId} {v : Value} {xs : List Value} {sz b : Nat} (h : w.ownsRow N T sz v n xs) (hb : v.ownBlock = some b) : b < w.heap.size := by
  rcases h.2 with ⟨rfl, _⟩ | ⟨g, cap, cur, rfl, _, hh, _⟩
  · cases hb
  · obtain rfl : g = b := by simpa [Value.ownBlock] using hb
    rcases Nat.lt_or_ge g w.heap.size with h' | h'
    · exact h'
    · rw [Array.getElem?_eq_none h'] at hh; cases hh

/-- What a line leaves. -/
def LineSo (N rb : Nat) (w : World) (r : L27R) (b : Bool) (e : Ending) (w' : World) : Prop := e = .returned (.bool b) ∧ Below N w w' ∧ ∃ v, LS N rb w' r v

theorem below_same {N : Nat} {w w' : World} (h : Same (fun _ => False) w w') (hN : N ≤ w.heap.size) : Below N w w' := ⟨h.os, h.tape, h.output, h.size, fun k hk => h.block k (by omega) fun c => c⟩

theorem entsC_snoc (l : List Entry) (e : Entry) : entsC (l ++ [e]) = entsC l ++ entC e := by simp [entsC]

theorem line_end {N rb : Nat} {w w1 w2 : World} {r : L27R} {v : Value} {e : Entry} {T : TypeId} {at' st : Int} {o : Obj} {g cap : Nat} (hN : N ≤ w.heap.size) (hsame : Same (fun _ => False) w w1)
    (hblk : w1.heap[rb]? = some (.cells #[.string ⟨r.s_.toArray⟩, .int .i64 r.at_, .int .i64 r.stamp_, v] T (0, 0))) (lrb : rb < w1.heap.size) (hlow : N ≤ rb) (hne : v.ownBlock ≠ some rb) (hbase : ∀ b, v.ownBlock = some b → N ≤ b)
    (hown1 : w2.ownsRow N 31 3 (.slice (some ⟨g, 0, none⟩) (r.list_.length + 1) cap) (r.list_.length + 1) (entsC r.list_ ++ entC e))
    (hgrow : ((w1.alloc o).drew).grownBy w2 v.ownBlock) (hat : v.ownBlock = some g ∨ g = w1.heap.size + 1) :
    LineSo N rb w ⟨r.s_, at', st, r.list_ ++ [e]⟩ true (.returned (.bool true))
      (((w2.setCell ⟨rb, 3, none⟩ (.slice (some ⟨g, 0, none⟩) (r.list_.length + 1) cap)).setCell ⟨rb, 2, none⟩ (.int .i64 st)).setCell ⟨rb, 1, none⟩ (.int .i64 at')) := by
  have hgr : g ≠ rb := by
    rcases hat with h | h
    · intro c; exact hne (by rw [h, c])
    · omega
  have hN1 : N ≤ w1.heap.size := Nat.le_trans hN hsame.size
  have hsz : ((w1.alloc o).drew).heap.size = w1.heap.size + 1 := by show (w1.heap.push o).size = _; simp
  have h2 : w2.heap[rb]? = some (.cells #[.string ⟨r.s_.toArray⟩, .int .i64 r.at_, .int .i64 r.stamp_, v] T (0, 0)) := by
    rw [hgrow.block rb (by omega) (fun c => hne c.symm), ← hblk]
    exact Below.heap_alloc w1 o rb lrb
  refine ⟨rfl, ?_, .slice (some ⟨g, 0, none⟩) (r.list_.length + 1) cap, ?_⟩
  · refine ((Below.setCell ?_ hlow _).setCell hlow _).setCell hlow _
    refine Below.grown ?_ hgrow (by omega) hbase
    exact ((below_same hsame hN).alloc hN1 o).drew
  · refine ⟨⟨T, ?_⟩, ?_, ?_, hlow⟩
    · rw [heap_setCell_same _ rb 1 _ T _ (heap_setCell_same _ rb 2 _ T _ (heap_setCell_same _ rb 3 _ T _ h2))]
      rfl
    · rw [entsC_snoc, List.length_append, List.length_singleton]
      refine ownsRow_setCell_other (ownsRow_setCell_other (ownsRow_setCell_other hown1 ?_ _) ?_ _) ?_ _ <;> (simp [Value.ownBlock]; exact hgr)
    · simp [Value.ownBlock]; exact hgr

set_option maxHeartbeats 4000000 in
set_option maxRecDepth 100000 in
theorem line_tail {N rb : Nat} {w w1 : World} {r : L27R} {v : Value} {q : Int × Int × Entry} {tmps : Array Value} {eb : Nat} {c : Code} (hb : Tryz.f49.body = some c) (hL : LS N rb w r v) (hM : MidFr N rb w r v q tmps w1 eb)
    (hN : N ≤ w.heap.size) (h63 : r.list_.length + 1 ≤ maxLen) (hbytes : (r.list_.length + 1) * 32 ≤ 140737488355328) :
    (tailC 12 c).wp Tryz.prog (bodyPost Tryz.prog Tryz.f49 (LineSo N rb w ⟨r.s_, IntKind.i64.wrap (q.1 + 1), q.2.1, r.list_ ++ [q.2.2]⟩ true)) ⟨tmps, []⟩ w1 := by
  obtain ⟨hsz, t0, t3, t10, t9, hcell, hsame, heb⟩ := hM
  have hlit := arr_lit tmps hsz
  simp only [List.range, List.range.loop, List.map_cons, List.map_nil, t0, t3, t10, t9] at hlit
  obtain ⟨en, st, ⟨d, s, x⟩⟩ := q
  dsimp only at hcell hlit ⊢
  rw [show IntKind.i64.wrap (en + 1) = wrap64 (en + 1) from by rw [IntKind.wrap_i64]; unfold wrap64; rfl]
  obtain ⟨gg, hgg⟩ : ∃ gg : Nat → Value, gg = fun i => tmps.getD i undef := ⟨_, rfl⟩
  have hgg' : ∀ i, tmps.getD i undef = gg i := fun i => by rw [hgg]
  simp only [hgg'] at hlit
  rw [hlit]
  clear hlit hgg' hgg t0 t3 t10 t9 hsz tmps
  have hL1 := hL.same hsame
  obtain ⟨⟨T, hblk⟩, hown, hne, hlow⟩ := hL1
  have c3 : w1.cell? ⟨rb, 3, none⟩ = some v := by rw [cell_of_row w1 rb 3 _ T (0, 0) hblk]; rfl
  have lrb := World.block_lt_of_cell? w1 _ c3
  have f3 : w1.frozen? ⟨rb, 3, none⟩ = false := by
    simp only [World.frozen?, hblk]; rfl
  have f3' : ∀ o : Obj, ((w1.alloc o).drew).frozen? ⟨rb, 3, none⟩ = false := fun o => by
    have e : ((w1.alloc o).drew).heap[rb]? = w1.heap[rb]? := Below.heap_alloc w1 o rb lrb
    simp only [World.frozen?, e, hblk]; rfl
  have c3' : ∀ o : Obj, ((w1.alloc o).drew).cell? ⟨rb, 3, none⟩ = some v := fun o => by
    rw [← c3]; exact cell_of_block (Below.heap_alloc w1 o rb lrb)
  have c2 : w1.cell? ⟨rb, 2, none⟩ = some (.int .i64 r.stamp_) := by rw [cell_of_row w1 rb 2 _ T (0, 0) hblk]; rfl
  have c1 : w1.cell? ⟨rb, 1, none⟩ = some (.int .i64 r.at_) := by rw [cell_of_row w1 rb 1 _ T (0, 0) hblk]; rfl
  have cA : ∀ (o : Obj) (k : Nat), ((w1.alloc o).drew).cell? ⟨rb, k, none⟩ = w1.cell? ⟨rb, k, none⟩ := fun o k => cell_of_block (Below.heap_alloc w1 o rb lrb)
  have fA : ∀ (o : Obj) (k : Nat), ((w1.alloc o).drew).frozen? ⟨rb, k, none⟩ = false := fun o k => by
    have e : ((w1.alloc o).drew).heap[rb]? = w1.heap[rb]? := Below.heap_alloc w1 o rb lrb
    simp only [World.frozen?, e, hblk]
    match k with
    | 0 => rfl
    | k + 1 => rfl
  have HCA := Lib.hid cA
  have HFA := Lib.hid fA
  have HF3 := Lib.hid f3'
  have HC3 := Lib.hid c3'
  clear cA fA f3' c3'
  have hne2 : v.ownBlock ≠ some eb := fun e => by have := own_lt hL.row e; omega
  have e0 : w1.cell? ⟨eb, 0, none⟩ = some (.int .i64 d) := hcell 0 _ rfl
  have e1 : w1.cell? ⟨eb, 1, none⟩ = some (.string ⟨s.toArray⟩) := hcell 1 _ rfl
  have e2 : w1.cell? ⟨eb, 2, none⟩ = some (.int .i64 x) := hcell 2 _ rfl
  have leb := World.block_lt_of_cell? w1 _ e0
  obtain ⟨i0, hi0, hz0, hz1, hz2⟩ := info_parts ent_info
  generalize hsb : (⟨s.toArray⟩ : ByteArray) = sb at e1
  have hend := fun (g cap : Nat) (w2 : World) => line_end (e := ⟨d, s, x⟩) (at' := wrap64 (en + 1)) (st := st) (o := .cells #[.int .i64 d, .string sb, .int .i64 x] 31) (g := g) (cap := cap) (w2 := w2) hN hsame hblk lrb hlow hne (fun b hb => by
    rcases hown.2 with ⟨rfl, _⟩ | ⟨g, cap, cur, rfl, h, _⟩
    · cases hb
    · obtain rfl : g = b := by simpa [Value.ownBlock] using hb
      exact h)
  have HEND := Lib.hid hend
  have HB := Lib.hid hblk
  have HC := Lib.hid hcell
  have HS := Lib.hid hsame
  have HSB := Lib.hid hsb
  clear hblk hcell hsame hsb hL hend hN
  unfold Tryz.f49 at hb
  dsimp only at hb
  cases hb
  dsimp only [tailC]
  go_wp2_with fail
  go_region_law
    ((refine step_append_lies _ (by rfl) _ _ _ (by rfl) N 31 i0 _ 3 32 und_list hi0 hz0 hz1 hz2 rfl (by omega) v r.list_.length (entsC r.list_) (by rfl) ((hown.alloc _).drew)
        ⟨w1.heap.size, 0, none⟩ 1 1 [.int .i64 d, .string sb, .int .i64 x] (by rfl) (by rfl) (World.news_of_block (cs := #[.int .i64 d, .string sb, .int .i64 x]) (t := 31) (fr := (0, 0)) (heap_alloc_new w1 _)) (by simp [Value.oneCell'])
        (by omega) h63 hbytes (by simp; omega) (w1.heap.size + 1) (by simp) ?_; intro g cap w2 hown1 hgrow hat hlt
      have k3 : w2.cell? ⟨rb, 3, none⟩ = some v := by rw [hgrow.cell_far _ (by simp; omega) (Ne.symm hne)]; exact HC3.out _
      have k3' : w2.frozen? ⟨rb, 3, none⟩ = false := by rw [hgrow.frozen_far _ (by simp; omega) (Ne.symm hne)]; exact HF3.out _
      have k2 : w2.cell? ⟨rb, 2, none⟩ = some (.int .i64 r.stamp_) := by rw [hgrow.cell_far _ (by simp; omega) (Ne.symm hne), HCA.out]; exact c2
      have k2' : w2.frozen? ⟨rb, 2, none⟩ = false := by rw [hgrow.frozen_far _ (by simp; omega) (Ne.symm hne)]; exact HFA.out _ _
      have k1 : w2.cell? ⟨rb, 1, none⟩ = some (.int .i64 r.at_) := by rw [hgrow.cell_far _ (by simp; omega) (Ne.symm hne), HCA.out]; exact c1
      have k1' : w2.frozen? ⟨rb, 1, none⟩ = false := by rw [hgrow.frozen_far _ (by simp; omega) (Ne.symm hne)]; exact HFA.out _ _))
  all_goals go_wp2
  all_goals
    go_ret
    exact ⟨by simp, (HEND.out g cap w2 (by rw [← HSB.out] at hown1; exact hown1) hgrow hat).2⟩

theorem appOk_entry {n : Nat} {e : Entry} (h : appOk (n + ([e] : List Entry).length) 32 = true) : n + 1 ≤ maxLen ∧ (n + 1) * 32 ≤ 140737488355328 := by
  have h := of_decide_eq_true h
  simp only [List.length_singleton] at h
  refine ⟨?_, h⟩
  unfold maxLen
  omega

theorem line_calls {N rb : Nat} {w : World} {r r' : L27R} {v : Value} {b : Bool} (h : spec_l27R_line r = some (b, r')) (hL : LS N rb w r v) (hG : GT (fun _ => False) w) (hN : N ≤ w.heap.size) :
    Calls Tryz.prog 49 #[.pointer (some ⟨rb, 0, none⟩)] w (LineSo N rb w r' b) := by
  unfold spec_l27R_line at h
  obtain ⟨y, hy, h⟩ := bd_some h
  have hb : ∃ c, Tryz.f49.body = some c := ⟨_, rfl⟩
  obtain ⟨c, hb⟩ := hb
  refine line_cut hy hL hG hb (fun e tmps' w' hs h2 hn => ?_) (fun q e tmps' w' eb hM => ?_)
  · subst e
    cases so_some h
    have hv : tmps'.getD 2 undef = .bool false := h2
    refine bodyPost_ret (results_tmp rfl _ _ _) rfl ?_
    exact ⟨by rw [hv], below_same hs hN, v, hL.same hs⟩
  · subst e
    obtain ⟨hk, h⟩ := ck_some h
    cases so_some h
    obtain ⟨h1, h2⟩ := appOk_entry hk
    exact line_tail hb hL hM hN h1 h2

theorem start_LS (w : World) (sb : ByteArray) (s : List UInt8) (h : (⟨s.toArray⟩ : ByteArray) = sb) {T T' : TypeId} (hT : T = 31 := by rfl) :
    LS w.heap.size (w.heap.size + 1) ((w.alloc (.cells #[] T)).alloc (.cells #[.string sb, .int .i64 0, .int .i64 0, .slice (some ⟨w.heap.size, 0, none⟩) 0 0] T')) ⟨s, 0, 0, []⟩ (.slice (some ⟨w.heap.size, 0, none⟩) 0 0) := by
  subst h
  subst hT
  have e1 : (w.alloc (.cells #[] 31)).heap.size = w.heap.size + 1 := by show (w.heap.push _).size = _; simp
  refine ⟨⟨T', ?_⟩, ⟨rfl, .inr ⟨w.heap.size, 0, #[], rfl, Nat.le_refl _, ?_, Nat.le_refl _, Nat.zero_le _, rfl, rfl⟩⟩, by simp [Value.ownBlock], by omega⟩
  · rw [← e1]
    exact heap_alloc_new _ _
  · rw [Below.heap_alloc _ _ _ (by omega)]
    exact heap_alloc_new _ _

theorem below_is_same {w w' : World} (h : Below w.heap.size w w') : Same (fun _ => False) w w' := ⟨h.os, h.tape, h.output, h.size, fun b hb _ => h.block b hb⟩

set_option maxHeartbeats 4000000 in
set_option maxRecDepth 100000 in
theorem read_calls {s : List UInt8} {y : L27R} (h : spec_l27Read s = some y) (w : World) (hG : GT (fun _ => False) w) :
    Calls Tryz.prog 37 #[.string ⟨s.toArray⟩] w fun e w' => ∃ rb v, e = .returned (.pointer (some ⟨rb, 0, none⟩)) ∧ Below w.heap.size w w' ∧ LS w.heap.size rb w' y v := by
  generalize hsb : (⟨s.toArray⟩ : ByteArray) = sb
  have HSB := Lib.hid hsb
  have HG := Lib.hid hG
  have HH := Lib.hid h
  clear hsb hG h
  go_enter Tryz.func37, Tryz.ntmps37
  go_wp2_with fail
  obtain ⟨n0, hn0⟩ := whileE_some (show whileE spec_l27Read_l1 (L27R.mk s 0 0 []) = some y from HH.out)
  let J : Nat → Act → World → Prop := fun n a w' => ∃ r v x8 x9, a = ⟨#[Value.string sb, undef, Value.pointer none, Value.pointer (some ⟨w.heap.size + 1, 0, none⟩), Value.string sb, Value.slice (some ⟨w.heap.size, 0, none⟩) 0 0,
    Value.agg #[Value.string sb, Value.int IntKind.i64 0, Value.int IntKind.i64 0, Value.slice (some ⟨w.heap.size, 0, none⟩) 0 0], Value.pointer (some ⟨w.heap.size + 1, 0, none⟩), x8, x9, undef], []⟩ ∧
    LS w.heap.size (w.heap.size + 1) w' r v ∧ Below w.heap.size w w' ∧ iterE spec_l27Read_l1 n r = some y
  refine wp_loop (fun a w => ∃ n, J n a w) (fun a w => leastOf fun n => J n a w) ⟨n0, L27R.mk s 0 0 [], .slice (some ⟨w.heap.size, 0, none⟩) 0 0, undef, undef, rfl, start_LS w sb s HSB.out, ((Below.refl w.heap.size w).alloc (Nat.le_refl _) _).alloc (by show w.heap.size ≤ (w.heap.push _).size; simp) _, hn0⟩ fun a w' hI => ?_
  have hfind := (leastOf_spec hI).1
  revert hfind
  generalize hle : leastOf (fun n => J n a w') = n
  rintro ⟨r, v, x8, x9, rfl, hL, hB, hit⟩
  cases n with
  | zero => cases hit
  | succ n =>
    simp only [iterE] at hit
    cases ho : spec_l27Read_l1 r with
    | none => rw [ho] at hit; cases hit
    | some o =>
      rw [ho] at hit
      unfold spec_l27Read_l1 at ho
      obtain ⟨⟨b, r'⟩, hb, ho⟩ := bd_some ho
      have hX := line_calls hb hL (HG.out.mono (below_is_same hB) fun _ _ c => c) hB.size
      cases b with
      | true =>
        cases so_some ho
        have HN : ∀ w2 v2 x8 x9, LS w.heap.size (w.heap.size + 1) w2 r' v2 → Below w.heap.size w' w2 → ∀ a2, a2 = (⟨#[Value.string sb, undef, Value.pointer none, Value.pointer (some ⟨w.heap.size + 1, 0, none⟩), Value.string sb, Value.slice (some ⟨w.heap.size, 0, none⟩) 0 0,
            Value.agg #[Value.string sb, Value.int IntKind.i64 0, Value.int IntKind.i64 0, Value.slice (some ⟨w.heap.size, 0, none⟩) 0 0], Value.pointer (some ⟨w.heap.size + 1, 0, none⟩), x8, x9, undef], []⟩ : Act) →
            (∃ n, J n a2 w2) ∧ (leastOf fun n => J n a2 w2) < n + 1 := fun w2 v2 x8 x9 hL2 hB2 a2 ha => by
          have hJ : J n a2 w2 := ⟨r', v2, x8, x9, ha, hL2, hB.trans hB2, hit⟩
          exact ⟨⟨n, hJ⟩, Nat.lt_succ_of_le ((leastOf_spec ⟨n, hJ⟩).2 n hJ)⟩
        have HN := Lib.hid HN
        clear hL hB hit hb hle hI
        go_wp2_with (go_at_call 49; refine hX.mono ?_; rintro e w2 ⟨rfl, hB2, v2, hL2⟩)
        exact HN.out w2 v2 _ _ hL2 hB2 _ rfl
      | false =>
        cases so_some ho
        cases hit
        clear hL hb hle hI
        go_wp2_with (go_at_call 49; refine hX.mono ?_; rintro e w2 ⟨rfl, hB2, v2, hL2⟩)
        go_ret
        exact ⟨_, rfl, hB.trans hB2, v2, hL2⟩

/-! ### The contract -/

noncomputable def readF : List AV → Rs
  | [.str s] => match spec_l27Read s with
    | some r => ⟨true, .mem 4 [L27R_av r] 0, [.any]⟩
    | none => Rs.bad
  | _ => Rs.bad

noncomputable def c_spec_l27Read : Ctr := ⟨[.bor], false, readF⟩

theorem Fs_spec_l27Read {s_ : List UInt8} {y_ : L27R} (h : spec_l27Read s_ = some y_) : c_spec_l27Read.F [.str s_] = ⟨true, .mem 4 [L27R_av y_] 0, [.any]⟩ := by
  show (match spec_l27Read s_ with
    | some r => (⟨true, .mem 4 [L27R_av r] 0, [.any]⟩ : Rs)
    | none => Rs.bad) = _
  rw [h]
theorem M_spec_l27Read : c_spec_l27Read.modes = [.bor] := rfl
theorem Fl_spec_l27Read : c_spec_l27Read.flat = false := rfl
attribute [go_sem] M_spec_l27Read Fl_spec_l27Read

theorem readF_inv {args : List AV} (h : (readF args).ok = true) : ∃ s y, spec_l27Read s = some y ∧ args = [.str s] := by
  unfold readF at h
  split at h
  · rename_i s
    split at h
    · rename_i r hr; exact ⟨s, r, hr, rfl⟩
    · cases h
  · cases h

theorem home_read {S : Nat → Prop} {N rb : Nat} {w : World} {r : L27R} {v : Value} (h : LS N rb w r v) (hv : ∀ b, v.ownBlock = some b → ¬ S b) : Home S w rb 1 4 [L27R_av r] := by
  obtain ⟨T, hb⟩ := h.blk
  have hr := row_reads (n := 0) h.row hv
  have one : ∀ {i : Nat}, i < [L27R_av r].length → i = 0 := fun h => by simpa using h
  refine ⟨by omega, by simp, fun i hi => ?_, fun _ => ⟨_, T, (0, 0), hb, .inl rfl, rfl, fun i j hi hj => ?_⟩⟩
  · cases one hi; exact ⟨rfl, rfl⟩
  · cases one hi
    match j, hj with
    | 0, _ => exact .str
    | 1, _ => exact .int
    | 2, _ => exact .int
    | 3, _ => exact hr

theorem s_spec_l27Read : Sound Tryz.prog 37 c_spec_l27Read := by
  refine ⟨fun e => Bool.noConfusion e, fun F g0 w args vargs hsh hsz hfr hok => ⟨fun e => Bool.noConfusion e, ?_⟩⟩
  obtain ⟨s, y, hy, rfl⟩ := readF_inv hok
  have h0 := arg_VR hfr (i := 0) (by simp)
  rw [vargs_one hsz]
  generalize vargs.getD 0 undef = x at h0
  cases h0
  have he := Go.Proofs.enters_of (P := Tryz.prog) Tryz.func37 (by kernel_rfl) rfl
  unfold Invokes
  rw [he]
  rw [Fs_spec_l27Read hy]
  refine (read_calls hy w (hfr.tab.mono (Same.refl _ _) fun _ _ c => c.elim)).mono ?_
  rintro e' w' ⟨rb, v, rfl, hB, hL⟩
  have only : ∀ k h, obGet k [(0, (⟨4, [L27R_av y]⟩ : Hm))] = some h → k = 0 ∧ h = ⟨4, [L27R_av y]⟩ := by
    intro k h hg
    simp only [obGet, cond_eq_if, beq_iff_eq] at hg
    split at hg
    · rename_i e; cases hg; exact ⟨e.symm, rfl⟩
    · cases hg
  have hlow : ∀ b, w.heap.size ≤ b → ¬ F b := fun b hb hF => by have := hfr.fb _ hF; omega
  have hown : ∀ b, v.ownBlock = some b → w.heap.size ≤ b := fun b hb => by
    rcases hL.row.2 with ⟨rfl, _⟩ | ⟨g, cap, cur, rfl, h, _⟩
    · cases hb
    · obtain rfl : g = b := by simpa [Value.ownBlock] using hb
      exact h
  refine ⟨_, ⟨fun _ => rb, fun _ => 1⟩, [(0, ⟨4, [L27R_av y]⟩)], fun _ => 0, rfl, ⟨(below_is_same hB).mono fun _ _ c => c.elim, fun k h hg => ?_, fun k k' a b _ => ?_, fun k a => hlow _ hL.low, fun k a => .inl hL.low, ⟨rfl, rfl, rfl⟩, fun i j hi hj _ => ?_, fun i j _ hj => absurd hj (bor1 rfl j), fun j hj => absurd hj (bor1 rfl j)⟩⟩
  · obtain ⟨rfl, rfl⟩ := only k h hg
    refine home_read hL fun b hb => ?_
    rintro (c | ⟨k, _, e⟩)
    · exact hlow b (hown b hb) c
    · exact hL.own (by rw [hb, ← e])
  · obtain ⟨⟨h, hg⟩, _⟩ := a; obtain ⟨⟨h', hg'⟩, _⟩ := b
    rw [(only k h hg).1, (only k' h' hg').1]
  · rw [hi.1, hj.1]

end Go.Proofs.YtlcabohpeopdcaaGreatDoor
