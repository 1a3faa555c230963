/- impl.PlotLines and spec.PlotLines at this translation, by the kit's walk. No condition. -/
import Derived.Test.YtbobhejdijcofaaGreatDoorRPC
import Derived.Test.YtbobhejdijcofaaGreatDoorEngPlotA
import Derived.Deep.QuietTactic
import Derived.BigQuiet
import Derived.StillTailTactics
namespace Go.Proofs.YtbobhejdijcofaaGreatDoor.plot
open Go Go.RowKit Go.Proofs.YtbobhejdijcofaaGreatDoor
set_option linter.unusedVariables false
set_option linter.unusedSimpArgs false
set_option maxRecDepth 100000

/-! ### The calls -/

theorem in_calls {w : World} {n a b : Int} {v : Bool} (h : impl_in n a b = some v) (hgt : GT (fun _ => False) w) :
    Calls Tryz.prog 31 #[.int .i64 n, .int .i64 a, .int .i64 b] w fun e w' => e = .returned (.bool v) ∧ Same (fun _ => False) w w' := by
  refine (call_frz (args := [.int .i64 n, .int .i64 a, .int .i64 b]) s_18 Tryz.func31 rfl (by kernel_rfl) rfl (by rw [M_18]; rfl) rfl (fun j hj => ?_) hgt (Fs_18 h)).mono ?_
  · match j, hj with
    | 0, _ => exact .int
    | 1, _ => exact .int
    | 2, _ => exact .int
  · rintro e w' ⟨u, rfl, hs, hv⟩
    cases hv
    exact ⟨rfl, hs⟩

theorem l00In_calls {w : World} {n a b : Int} {v : Bool} (h : spec_l00In n a b = some v) (hgt : GT (fun _ => False) w) :
    Calls Tryz.prog 36 #[.int .i64 n, .int .i64 a, .int .i64 b] w fun e w' => e = .returned (.bool v) ∧ Same (fun _ => False) w w' := by
  refine (call_frz (args := [.int .i64 n, .int .i64 a, .int .i64 b]) s_56 Tryz.func36 rfl (by kernel_rfl) rfl (by rw [M_56]; rfl) rfl (fun j hj => ?_) hgt (Fs_56 h)).mono ?_
  · match j, hj with
    | 0, _ => exact .int
    | 1, _ => exact .int
    | 2, _ => exact .int
  · rintro e w' ⟨u, rfl, hs, hv⟩
    cases hv
    exact ⟨rfl, hs⟩

theorem min_calls {w : World} {a b v : Int} (h : spec_l00Min a b = some v) (hgt : GT (fun _ => False) w) :
    Calls Tryz.prog 38 #[.int .i64 a, .int .i64 b] w fun e w' => e = .returned (.int .i64 v) ∧ Same (fun _ => False) w w' := by
  refine (call_frz (args := [.int .i64 a, .int .i64 b]) s_67 Tryz.func38 rfl (by kernel_rfl) rfl (by rw [M_67]; rfl) rfl (fun j hj => ?_) hgt (Fs_67 h)).mono ?_
  · match j, hj with
    | 0, _ => exact .int
    | 1, _ => exact .int
  · rintro e w' ⟨u, rfl, hs, hv⟩
    cases hv
    exact ⟨rfl, hs⟩

theorem max_calls {w : World} {a b v : Int} (h : spec_l00Max a b = some v) (hgt : GT (fun _ => False) w) :
    Calls Tryz.prog 39 #[.int .i64 a, .int .i64 b] w fun e w' => e = .returned (.int .i64 v) ∧ Same (fun _ => False) w w' := by
  refine (call_frz (args := [.int .i64 a, .int .i64 b]) s_68 Tryz.func39 rfl (by kernel_rfl) rfl (by rw [M_68]; rfl) rfl (fun j hj => ?_) hgt (Fs_68 h)).mono ?_
  · match j, hj with
    | 0, _ => exact .int
    | 1, _ => exact .int
  · rintro e w' ⟨u, rfl, hs, hv⟩
    cases hv
    exact ⟨rfl, hs⟩

theorem repeat_calls {w : World} {n : Int} {v : List UInt8} (h : hRepeat [32] n = some v) (hgt : GT (fun _ => False) w) :
    Calls Tryz.prog 32 #[.string ⟨#[32]⟩, .int .i64 n] w fun e w' => e = .returned (.string ⟨v.toArray⟩) ∧ Same (fun _ => False) w w' := by
  refine (call_frz (args := [.str [32], .int .i64 n]) s_hRepeat Tryz.func32 rfl (by kernel_rfl) rfl (by rw [M_hRepeat]; rfl) rfl (fun j hj => ?_) hgt (Fs_hRepeat h)).mono ?_
  · match j, hj with
    | 0, _ => exact .str
    | 1, _ => exact .int
  · rintro e w' ⟨u, rfl, hs, hv⟩
    cases hv
    exact ⟨rfl, hs⟩

theorem blanks_calls {w : World} {n : Int} {v : List UInt8} (h : spec_l24Blanks n = some v) (hgt : GT (fun _ => False) w) :
    Calls Tryz.prog 37 #[.int .i64 n] w fun e w' => e = .returned (.string ⟨v.toArray⟩) ∧ Same (fun _ => False) w w' := by
  refine (call_frz (args := [.int .i64 n]) s_85 Tryz.func37 rfl (by kernel_rfl) rfl (by rw [M_85]; rfl) rfl (fun j hj => ?_) hgt (Fs_85 h)).mono ?_
  · match j, hj with
    | 0, _ => exact .int
  · rintro e w' ⟨u, rfl, hs, hv⟩
    cases hv
    exact ⟨rfl, hs⟩

theorem one_arg {w : World} {v : Value} {a : AV} (hv : VR (fun _ => False) w v a) : ∀ j, j < [a].length → VR (fun _ => False) w (#[v].getD j undef) ([a].getD j .any) := fun j hj => by
  match j, hj with
  | 0, _ => exact hv

theorem valid_calls {w : World} {l : List Point} {v : Value} {c : Bool} (h : impl_ValidCurve l = some c) (hv : VR (fun _ => False) w v (.sl 2 (List.map Point_av l))) (hgt : GT (fun _ => False) w) :
    Calls Tryz.prog 30 #[v] w fun e w' => e = .returned (.bool c) ∧ Same (fun _ => False) w w' := by
  refine (call_frz (args := [.sl 2 (List.map Point_av l)]) s_80 Tryz.func30 rfl (by kernel_rfl) rfl (by rw [M_80]; rfl) rfl (one_arg hv) hgt (Fs_80 h)).mono ?_
  rintro e w' ⟨u, rfl, hs, hv⟩
  cases hv
  exact ⟨rfl, hs⟩

theorem l08Ok_calls {w : World} {l : List Point} {v : Value} {c : Bool} (h : spec_l08Ok l = some c) (hv : VR (fun _ => False) w v (.sl 2 (List.map Point_av l))) (hgt : GT (fun _ => False) w) :
    Calls Tryz.prog 35 #[v] w fun e w' => e = .returned (.bool c) ∧ Same (fun _ => False) w w' := by
  refine (call_frz (args := [.sl 2 (List.map Point_av l)]) s_84 Tryz.func35 rfl (by kernel_rfl) rfl (by rw [M_84]; rfl) rfl (one_arg hv) hgt (Fs_84 h)).mono ?_
  rintro e w' ⟨u, rfl, hs, hv⟩
  cases hv
  exact ⟨rfl, hs⟩

theorem magsIn_calls {w : World} {l : List Point} {v : Value} {ms : List Int} (h : impl_magsIn l = some ms) (hv : VR (fun _ => False) w v (.sl 2 (List.map Point_av l))) (hgt : GT (fun _ => False) w) :
    Calls Tryz.prog 34 #[v] w fun e w' => ∃ u, e = .returned u ∧ VR (fun _ => False) w' u (.sl 1 (List.map (AV.int .i64) ms)) ∧ Same (fun _ => False) w w' := by
  refine (call_frz (args := [.sl 2 (List.map Point_av l)]) s_81 Tryz.func34 rfl (by kernel_rfl) rfl (by rw [M_81]; rfl) rfl (one_arg hv) hgt (Fs_81 h)).mono ?_
  rintro e w' ⟨u, rfl, hs, hv⟩
  exact ⟨u, rfl, hv, hs⟩

theorem range_calls {w : World} {ms : List Int} {v : Value} {r : Int × Int × Int} (h : impl_RangeOfMags ms = some r) (hv : VR (fun _ => False) w v (.sl 1 (List.map (AV.int .i64) ms))) (hgt : GT (fun _ => False) w) :
    Calls Tryz.prog 33 #[v] w fun e w' => e = .returned (.tuple #[.int .i64 r.1, .int .i64 r.2.1, .int .i64 r.2.2]) ∧ Same (fun _ => False) w w' := by
  refine (call_frz (args := [.sl 1 (List.map (AV.int .i64) ms)]) s_53 Tryz.func33 rfl (by kernel_rfl) rfl (by rw [M_53]; rfl) rfl (one_arg hv) hgt (Fs_53 h)).mono ?_
  rintro e w' ⟨u, rfl, hs, hv⟩
  refine ⟨?_, hs⟩
  cases hv with
  | @tup cs ls hn hc =>
    have e0 := hc 0 (by simp)
    have e1 := hc 1 (by simp)
    have e2 := hc 2 (by simp)
    have hn : cs.size = 3 := hn
    obtain ⟨cs⟩ := cs
    match cs, hn with
    | [a, b, c], _ =>
      have i : ∀ {u : Value} {k : IntKind} {z : Int}, VR (fun _ => False) w' u (.int k z) → u = .int k z := fun h => by cases h; rfl
      rw [show a = .int .i64 r.1 from i e0, show b = .int .i64 r.2.1 from i e1, show c = .int .i64 r.2.2 from i e2]

/-! ### The points -/

structure PtAt (W : World) (b off : Nat) (l : List Point) : Prop where
  c0 : ∀ k, k < l.length → W.cell? ⟨b, off + k * 2, none⟩ = some (.int .i64 (l.getD k default).Time)
  c1 : ∀ k, k < l.length → W.cell? ⟨b, off + k * 2 + 1, none⟩ = some (.int .i64 (l.getD k default).Mag)

theorem PtAt.same {w w' : World} {b off : Nat} {l : List Point} (h : PtAt w b off l) (hs : Same (fun _ => False) w w') : PtAt w' b off l :=
  ⟨fun k hk => hs.cell (fun c => c) (h.c0 k hk), fun k hk => hs.cell (fun c => c) (h.c1 k hk)⟩

theorem pts_of {S : Nat → Prop} {w : World} {v : Value} {l : List Point} (h : VR S w v (.sl 2 (List.map Point_av l))) :
    ∃ a cap, v = .slice a l.length cap ∧ (0 < l.length → ∃ b off, a = some ⟨b, off, none⟩ ∧ b < w.heap.size ∧ PtAt w b off l) := by
  cases h with
  | @sl a n cap sz els b off rd hn hcap hsz ha hc hw hr =>
    have hl : (List.map Point_av l).length = l.length := by simp
    refine ⟨a, cap, by rw [hn, hl], fun hp => ?_⟩
    obtain ⟨e, _⟩ := ha (by rw [hl]; exact hp)
    have hb := World.block_lt_of_cell? w ⟨b, off + (0 * 2 + 0), none⟩ (hw 0 0 (by rw [hl]; exact hp) (by omega))
    have hget : ∀ k, k < l.length → (List.map Point_av l).getD k .any = Point_av (l.getD k default) := fun k hk => by
      simp [List.getD_eq_getElem?_getD, hk]
    have one : ∀ k j, k < l.length → j < 2 → w.cell? ⟨b, off + (k * 2 + j), none⟩ = some (rd k j) ∧ VR S w (rd k j) ((Point_av (l.getD k default)).cells.getD j .any) := fun k j hk hj => by
      refine ⟨hw k j (by rw [hl]; exact hk) hj, ?_⟩
      have := hr k j (by rw [hl]; exact hk) hj
      rwa [hget k hk] at this
    have i : ∀ {u : Value} {k : IntKind} {z : Int}, VR S w u (.int k z) → u = .int k z := fun h => by cases h; rfl
    refine ⟨b, off, e, hb, ⟨fun k hk => ?_, fun k hk => ?_⟩⟩
    · obtain ⟨q, r⟩ := one k 0 hk (by omega); rw [← i r]; exact q
    · obtain ⟨q, r⟩ := one k 1 hk (by omega); rw [← i r]; exact q

theorem drop_pt {l : List Point} {j : Nat} (h : j < l.length) : l.drop j = l.getD j default :: l.drop (j + 1) := by
  rw [List.drop_eq_getElem_cons h, List.getD_eq_getElem?_getD, List.getElem?_eq_getElem h]; rfl

/-! ### What is left, and the loops -/

theorem str_info : (Tryz.prog.info? 9).map (fun i => (i.zero, i.size, i.bytes)) = some (some (.string ⟨#[]⟩), 1, 16) := by kernel_rfl
theorem und_strs : Tryz.prog.underlying 31 = some (.slice 9) := by kernel_rfl
theorem bytes_info : (Tryz.prog.info? 22).map (fun i => (i.zero, i.size, i.bytes)) = some (some (.slice none 0 0), 1, 24) := by kernel_rfl
theorem und_grid : Tryz.prog.underlying 54 = some (.slice 22) := by kernel_rfl
theorem und_bytes : Tryz.prog.underlying 22 = some (.slice 5) := by kernel_rfl
theorem und_byte : Tryz.prog.underlying 5 = some (.int .u8) := by kernel_rfl
theorem und_str : Tryz.prog.underlying 9 = some .string := by kernel_rfl

def PlotEnd (w : World) (y : List (List UInt8) × Int) (e : Ending) (w' : World) : Prop := ∃ v, e = .returned (.tuple #[v, .int .i64 y.2]) ∧ Same (fun _ => False) w w' ∧ RowAt w.heap.size w' v y.1

/-- The rows that have been made. -/
def MadeRel (w : World) (row : List UInt8) (n : Nat) (vo i : Value) (wr : World) : Prop :=
  ∃ k vs, i = .int .i64 ((k : Nat) : Int) ∧ k ≤ n ∧ Hid (GridAt w.heap.size wr vo vs (List.replicate k row)) ∧ Same (fun _ => False) w wr

theorem made_step {w wr w2 w3 : World} {row : List UInt8} {n k gr cr g cap : Nat} {vo : Value} {vs : List Value} {o : Obj} (hk : k < n) (hG : GridAt w.heap.size wr vo vs (List.replicate k row)) (hs : Same (fun _ => False) w wr) (h12 : Same (fun _ => False) wr w2) (hl : ByteAt w2 gr row) (hgr : wr.heap.size ≤ gr)
    (hw : w3.ownsRow w.heap.size 22 1 (.slice (some ⟨g, 0, none⟩) (k + 1) cap) (k + 1) (vs ++ [.slice (some ⟨gr, 0, none⟩) row.length cr])) (hg : (w2.alloc o).grownBy w3 vo.ownBlock) :
    MadeRel w row n (.slice (some ⟨g, 0, none⟩) (k + 1) cap) (.int .i64 ((k : Int) + 1)) w3 := by
  refine ⟨k + 1, vs ++ [.slice (some ⟨gr, 0, none⟩) row.length cr], rfl, hk, Lib.hid ?_, same_over (hs.trans h12) ((Same.alloc (fun b => some b = vo.ownBlock) w2 o).trans (same_grown hg)) fun x hx e => ?_⟩
  · rw [List.replicate_succ']
    have hw' := hw
    have e : (List.replicate k row).length = k := by simp
    have := hG.snoc (cr := cr) (g := g) (cap := cap) (o := o) hs.size h12 hl hgr (by rw [e]; exact hw) hg
    rw [e] at this
    exact this
  · have := (ownsRow_lt hG.ow e.symm).1; omega

/-- The lines that have been read. -/
def LinesRel (w : World) (G : List (List UInt8)) (vo : Value) (vs : List Value) (vl i : Value) (wr : World) : Prop :=
  ∃ k : Nat, i = .int .i64 (k : Int) ∧ k ≤ G.length ∧ Hid (GridAt w.heap.size wr vo vs G) ∧ Hid (RowAt w.heap.size wr vl (G.take k)) ∧ Same (fun _ => False) w wr

theorem take_snoc {G : List (List UInt8)} {k : Nat} (h : k < G.length) : G.take (k + 1) = G.take k ++ [G.getD k []] := by
  rw [List.take_add_one, List.getElem?_eq_getElem h, List.getD_eq_getElem?_getD, List.getElem?_eq_getElem h]; rfl

theorem lines_step {w wr w3 : World} {G : List (List UInt8)} {vo vl : Value} {vs : List Value} {k g cap : Nat} {o : Obj} (hk : k < G.length) (hG : GridAt w.heap.size wr vo vs G) (hR : RowAt w.heap.size wr vl (G.take k)) (hs : Same (fun _ => False) w wr)
    (hw : w3.ownsRow w.heap.size 9 1 (.slice (some ⟨g, 0, none⟩) (k + 1) cap) (k + 1) (rowV (G.take k) ++ [strV (G.getD k [])])) (hg : (wr.alloc o).grownBy w3 vl.ownBlock) :
    LinesRel w G vo vs (.slice (some ⟨g, 0, none⟩) (k + 1) cap) (.int .i64 ((k : Int) + 1)) w3 := by
  have h1 : Same (fun b => some b = vl.ownBlock) wr w3 := (Same.alloc _ wr o).trans (same_grown hg)
  refine ⟨k + 1, rfl, hk, Lib.hid (hG.same h1 fun b hb e => ?_), Lib.hid ?_, same_over hs h1 fun x hx e => ?_⟩
  · obtain ⟨cur, fr, h⟩ := ownsRow_block hR e.symm
    exact ⟨cur, fr, _, h, by decide, by decide⟩
  · have e : (G.take k ++ [G.getD k []]).length = k + 1 := by simp; omega
    unfold RowAt
    rw [take_snoc hk, e, show rowV (G.take k ++ [G.getD k []]) = rowV (G.take k) ++ [strV (G.getD k [])] by simp [rowV]]
    exact hw
  · have := (ownsRow_lt hR e.symm).1; omega

theorem mul_small {x c m : Int} (h0 : 0 ≤ x) (h1 : x ≤ m) (h2 : 0 ≤ c) (h3 : c ≤ 80) : 0 ≤ x * c ∧ x * c ≤ m * 80 :=
  ⟨Int.mul_nonneg h0 h2, Int.mul_le_mul h1 h3 h2 (by omega)⟩

/-- One star: where it lies. -/
theorem star_at {t u a b columns rows : Int} {p : Point} {r : List Point} {g y : List (List UInt8)} (h : plotG t u a b columns rows (p :: r) g = some y) (ha : -1000000 ≤ a) (ht : 0 ≤ t) (hb : b ≤ 1000000) (hu : u ≤ 100000000) (hc : 1 ≤ columns ∧ columns ≤ 80) (hr : 1 ≤ rows ∧ rows ≤ 60) :
    ∃ ky kx : Nat, (a ≤ p.Mag ∧ p.Mag ≤ b ∧ t ≤ p.Time ∧ p.Time ≤ u) ∧ (0 ≤ (p.Mag - a) * rows ∧ (p.Mag - a) * rows ≤ 160000000) ∧ (0 ≤ (p.Time - t) * columns ∧ (p.Time - t) * columns ≤ 8000000000) ∧
      (p.Mag - a) * rows / (b - a + 1) = (ky : Int) ∧ (p.Time - t) * columns / (u - t + 1) = (kx : Int) ∧ ky < g.length ∧ kx < (g.getD ky []).length ∧ plotG t u a b columns rows r (g.set ky ((g.getD ky []).set kx 42)) = some y := by
  rw [plotG] at h
  obtain ⟨h1, h⟩ := ck_some h
  obtain ⟨h2, h⟩ := ck_some h
  obtain ⟨h3, h⟩ := ck_some h
  simp only [Bool.and_eq_true, decide_eq_true_eq] at h1 h2 h3
  obtain ⟨⟨⟨m1, m2⟩, m3⟩, m4⟩ := h1
  have p1 := mul_small (x := p.Mag - a) (c := rows) (m := 2000000) (by omega) (by omega) (by omega) (by omega)
  have p2 := mul_small (x := p.Time - t) (c := columns) (m := 100000000) (by omega) (by omega) (by omega) (by omega)
  have d1 : 0 ≤ (p.Mag - a) * rows / (b - a + 1) := Int.ediv_nonneg p1.1 (by omega)
  have d2 : 0 ≤ (p.Time - t) * columns / (u - t + 1) := Int.ediv_nonneg p2.1 (by omega)
  refine ⟨((p.Mag - a) * rows / (b - a + 1)).toNat, ((p.Time - t) * columns / (u - t + 1)).toNat, ⟨m1, m2, m3, m4⟩, ⟨p1.1, by omega⟩, ⟨p2.1, by omega⟩, by omega, by omega, by omega, by omega, h⟩

theorem grid_start' {N : Nat} (w : World) (h : N ≤ w.heap.size) : GridAt N (w.alloc (.cells #[] 22)) (.slice (some ⟨w.heap.size, 0, none⟩) 0 0) [] [] :=
  ⟨ownsRow_base (new_row w) h, fun i hi => absurd hi (by simp), fun i j hi => absurd hi (by simp)⟩

def intOf : Value → Nat
  | .int _ z => z.toNat
  | _ => 0

theorem nil_row {N : Nat} {w : World} : RowAt N w (.slice none 0 0) [] := ⟨rfl, .inl ⟨rfl, rfl⟩⟩

attribute [local irreducible] Calls in
set_option maxHeartbeats 16000000 in
theorem impl_walk {w : World} {av : Option Addr} {cap len : Nat} {l : List Point} {columns rows : Int} {y : List (List UInt8) × Int} (hlen : l.length = len) (hv : VR (fun _ => False) w (.slice av len cap) (.sl 2 (List.map Point_av l))) (hp : 0 < len → ∃ b off, av = some ⟨b, off, none⟩ ∧ b < w.heap.size ∧ PtAt w b off l)
    (hgt : GT (fun _ => False) w) (h : impl_PlotLines l columns rows = some y) :
    Calls Tryz.prog 12 #[.slice av len cap, .int .i64 columns, .int .i64 rows] w (PlotEnd w y) := by
  unfold impl_PlotLines at h
  obtain ⟨c, hc, h⟩ := bd_some h
  have hG : ∀ W, Same (fun _ => False) w W → GT (fun _ => False) W := fun W hs => hgt.mono hs fun _ _ c => c
  have hV : ∀ W, Same (fun _ => False) w W → VR (fun _ => False) W (.slice av len cap) (.sl 2 (List.map Point_av l)) := fun W hs => hv.mono hs fun _ _ c => c
  have HG := Lib.hid hG
  have HV := Lib.hid hV
  have HC := Lib.hid hc
  have HP := Lib.hid hp
  have HL := Lib.hid hlen
  clear hG hV hc hgt hv hp hlen
  cases c with
  | false =>
    rw [Bool.not_false, if_pos rfl] at h
    obtain rfl := Option.some.inj h
    clear h
    go_enter Tryz.func12, Tryz.ntmps12
    go_wp2_with (go_at_call 30; refine (valid_calls HC.out (HV.out w (Same.refl _ w)) (HG.out w (Same.refl _ w))).mono ?_; rintro e w1 ⟨rfl, q1⟩)
    go_ret2
    exact ⟨_, rfl, q1, nil_row⟩
  | true =>
    rw [Bool.not_true, if_neg Bool.false_ne_true] at h
    obtain ⟨x, hx, h⟩ := bd_some h
    obtain ⟨z, hz, h⟩ := bd_some h
    have HX := Lib.hid hx
    have HZ := Lib.hid hz
    clear hx hz
    cases x with
    | false =>
      rw [Bool.not_false, Bool.true_or, if_pos rfl] at h
      obtain rfl := Option.some.inj h
      clear h
      go_enter Tryz.func12, Tryz.ntmps12
      go_wp2_with (first
        | (go_at_call 30; refine (valid_calls HC.out (HV.out w (Same.refl _ w)) (HG.out w (Same.refl _ w))).mono ?_; rintro e w1 ⟨rfl, q1⟩)
        | (go_at_call 31; refine (in_calls HX.out (HG.out w1 q1)).mono ?_; rintro e w2 ⟨rfl, q2⟩))
      go_ret2
      exact ⟨_, rfl, q1.trans q2, nil_row⟩
    | true =>
      cases z with
      | false =>
        rw [Bool.not_false, Bool.or_true, if_pos rfl] at h
        obtain rfl := Option.some.inj h
        clear h
        go_enter Tryz.func12, Tryz.ntmps12
        go_wp2_with (first
          | (go_at_call 30; refine (valid_calls HC.out (HV.out w (Same.refl _ w)) (HG.out w (Same.refl _ w))).mono ?_; rintro e w1 ⟨rfl, q1⟩)
          | (go_at_call 31; refine (in_calls HX.out (HG.out w1 q1)).mono ?_; rintro e w2 ⟨rfl, q2⟩)
          | (go_at_call 31; refine (in_calls HZ.out (HG.out w2 (q1.trans q2))).mono ?_; rintro e w3 ⟨rfl, q3⟩))
        go_ret2
        exact ⟨_, rfl, (q1.trans q2).trans q3, nil_row⟩
      | true =>
        rw [Bool.not_true, Bool.or_self, if_neg Bool.false_ne_true] at h
        obtain ⟨hb, h⟩ := ck_some h
        obtain ⟨row, hrow, h⟩ := bd_some h
        obtain ⟨hrl, h⟩ := ck_some h
        have hrl := of_decide_eq_true hrl
        simp only [Bool.and_eq_true, decide_eq_true_eq] at hb
        obtain ⟨⟨⟨⟨hb1, hb2⟩, hb3⟩, hb4⟩, hb5⟩ := hb
        obtain ⟨n, rfl⟩ : ∃ n : Nat, rows = (n : Int) := ⟨rows.toNat, by omega⟩
        rw [Int.toNat_natCast] at h
        have HR := Lib.hid hrow
        have HH := Lib.hid h
        clear hrow h
        have hln : len ≤ 1000000 := by have := HL.out; omega
        clear hb1
        go_enter Tryz.func12, Tryz.ntmps12
        go_wp2_with (first
          | (go_at_call 30; refine (valid_calls HC.out (HV.out w (Same.refl _ w)) (HG.out w (Same.refl _ w))).mono ?_; rintro e w1 ⟨rfl, q1⟩)
          | (go_at_call 31; refine (in_calls HX.out (HG.out w1 q1)).mono ?_; rintro e w2 ⟨rfl, q2⟩)
          | (go_at_call 31; refine (in_calls HZ.out (HG.out w2 (q1.trans q2))).mono ?_; rintro e w3 ⟨rfl, q3⟩))
        have q3' : Same (fun _ => False) w (w3.alloc (.cells #[] 22)) := ((q1.trans q2).trans q3).trans (Same.alloc _ w3 _)
        have g3 := Lib.hid (grid_start' w3 ((q1.trans q2).trans q3).size)
        clear q1 q2 q3
        go_loopw [8, 34] (fun vo i wr => MadeRel w row n vo i wr) (fun _ i _ => n - intOf i)
        case atStart => exact ⟨0, [], rfl, Nat.zero_le _, g3, q3'⟩
        case round =>
          clear g3 q3'
          obtain ⟨k, vs, rfl, hk, hG, hs⟩ := hrel
          by_cases hkn : k < n
          · obtain ⟨i0, hi, hz0, hz1, hz2⟩ := info_parts bytes_info
            have hown : wr.ownsRow w.heap.size 22 1 u8 k vs := by have := hG.out.ow; rwa [List.length_replicate] at this
            have HO := Lib.hid hown
            have HS := Lib.hid hs
            clear hown
            go_wp2_with (first
              | (go_at_call 32; refine (repeat_calls HR.out (HG.out wr HS.out)).mono ?_; rintro e w4 ⟨rfl, q4⟩)
              | (refine wpList_bytes w4 rfl _ 9 22 rfl und_str und_bytes und_byte row rfl ?_; intro w5 c5 q5 z5 b5; clear z5)
              | (at_builtin; refine wpList_append_lies _ rfl _ _ 54 rfl w.heap.size 22 i0 _ 1 24 und_grid hi hz0 hz1 hz2 rfl (by omega) u8 k vs rfl ((ownsRow_same HO.out (q4.trans q5) (fun _ _ c => c)).alloc _) ⟨w5.heap.size, 0, none⟩ 1 1 [.slice (some ⟨w4.heap.size, 0, none⟩) row.length c5] rfl rfl (World.news_of_block (cs := #[.slice (some ⟨w4.heap.size, 0, none⟩) row.length c5]) (t := 22) (fr := (0, 0)) (heap_alloc_new w5 _)) (by simp [Value.oneCell']) (by omega) (by unfold maxLen; omega) (by omega) (by simp; have := q4.size; have := q5.size; have := HS.out.size; omega) (w5.heap.size + 1) (by simp) ?_; intro g cap6 w6 hown6 hgrow6 hat6 hlt6))
            go_roundw
            case rel => exact made_step hkn hG.out HS.out (q4.trans q5) b5 q4.size hown6 hgrow6
            case measure => simp [intOf]; omega
          · obtain rfl : k = n := by omega
            have HS := Lib.hid hs
            clear hs hk
            obtain ⟨go, co, hu8⟩ := ownsRow_slice hG.out.ow (by simp; omega)
            rw [List.length_replicate] at hu8
            subst hu8
            by_cases h0 : 0 < len
            · obtain ⟨b, off, rfl, hbw, hpt⟩ := HP.out h0
              have h := HH.out
              rw [decide_eq_true (show (0 : Int) < (l.length : Int) by have := HL.out; omega), if_pos rfl] at h
              obtain ⟨ms, hms, h⟩ := bd_some h
              obtain ⟨r, hr, h⟩ := bd_some h
              unfold plotE at h
              obtain ⟨hbd, h⟩ := ck_some h
              obtain ⟨G, hGf, h⟩ := bd_some h
              rw [Int.toNat_natCast] at hGf
              obtain rfl := Option.some.inj h
              simp only [Bool.and_eq_true, decide_eq_true_eq] at hbd
              obtain ⟨⟨⟨⟨⟨d1, d2⟩, d3⟩, d4⟩, d5⟩, d6⟩ := hbd
              have hpt' := hpt.same HS.out
              have e0 := hpt'.c0 0 (by have := HL.out; omega)
              have e1 := hpt'.c0 (len - 1) (by have := HL.out; omega)
              rw [HL.out] at d5 d6 hGf
              generalize (l.getD 0 default).Time = t at d4 d5 d6 hGf e0
              generalize (l.getD (len - 1) default).Time = u at d4 d5 d6 hGf e1
              obtain ⟨a, bb, rc⟩ := r
              simp only at d1 d2 d3 hGf
              rw [Nat.zero_mul, Nat.add_zero] at e0
              have HM := Lib.hid hms
              have HRR := Lib.hid hr
              have HGF := Lib.hid hGf
              have HPT := Lib.hid hpt
              clear hms hr hGf hpt hpt' h
              go_wp2_with fail
              have k1 : (0 : Int) < (len : Int) := by omega
              have k2 : IntKind.i64.wrap ((len : Int) - 1) = ((len - 1 : Nat) : Int) := by rw [wrap_i64 (by omega) (by omega)]; omega
              have k3 : (0 : Int) ≤ ((len - 1 : Nat) : Int) := by omega
              have k4 : ((len - 1 : Nat) : Int) < (len : Int) := by omega
              have k5 : (((len - 1 : Nat) : Int)).toNat = len - 1 := by omega
              go_quiet (fail)
              clear k1 k2 k3 k4 k5
              obtain ⟨w6, hw6⟩ : ∃ x, x = wr.drewN nq := ⟨_, rfl⟩
              have q6 : Same (fun _ => False) wr w6 := by rw [hw6]; exact ⟨rfl, rfl, rfl, Nat.le_refl _, fun _ _ _ => rfl⟩
              rw [← hw6]
              clear hw6 e0 e1
              go_wp2_with (first
                | (go_at_call 34; refine (magsIn_calls HM.out (HV.out _ (HS.out.trans q6)) (HG.out _ (HS.out.trans q6))).mono ?_; rintro e w7 ⟨vm, rfl, vm7, q7⟩)
                | (go_at_call 33; refine (range_calls HRR.out vm7 (HG.out _ ((HS.out.trans q6).trans q7))).mono ?_; rintro e w8 ⟨rfl, q8⟩))
              have hs8 : Same (fun _ => False) w w8 := ((HS.out.trans q6).trans q7).trans q8
              have g8 := Lib.hid (hG.out.still ((q6.trans q7).trans q8))
              clear q6 q7 q8 vm7
              go_loopw [66] (fun i ws => ∃ (k' : Nat) (G' : List (List UInt8)), i = .int .i64 (k' : Int) ∧ k' ≤ len ∧ G'.length = k ∧ Hid (GridAt w.heap.size ws (.slice (some ⟨go, 0, none⟩) k co) vs G') ∧ Hid (plotG t u a bb columns k (l.drop k') G' = some G) ∧ Same (fun _ => False) w ws) (fun i _ => len - intOf i)
              case atStart => exact ⟨0, _, rfl, Nat.zero_le _, by simp, g8, HGF, hs8⟩
              case round =>
                clear g8 hs8 hG HGF
                obtain ⟨k', G', rfl, hk', hGl, hG', hGF', hs'⟩ := hrel
                by_cases hkl : k' < len
                · have hgf := hGF'.out
                  rw [drop_pt (by have := HL.out; omega)] at hgf
                  have hpt := HPT.out.same hs'
                  have c0 := hpt.c0 k' (by have := HL.out; omega)
                  have c1 := hpt.c1 k' (by have := HL.out; omega)
                  generalize hpp : l.getD k' default = pp at hgf c0 c1
                  obtain ⟨tm, mg⟩ := pp
                  simp only at c0 c1
                  obtain ⟨ky, kx, ⟨m1, m2, m3, m4⟩, p1, p2, y1, y2, y3, y4, hnext⟩ := star_at hgf d1 d4 d3 d6 ⟨hb2, hb3⟩ ⟨hb4, hb5⟩
                  simp only at m1 m2 m3 m4 p1 p2 y1 y2
                  obtain ⟨gr, cr, hgr, hNr, hBr⟩ := hG'.out.row ky y3
                  have o0 := ownsRow_cell (by have := hG'.out.ow; rwa [hGl] at this) (show ky < k by omega)
                  rw [hgr] at o0
                  obtain ⟨i1, i2⟩ := hBr.cell y4
                  have HGR := Lib.hid hgr
                  have HNX := Lib.hid hnext
                  have HBR := Lib.hid hBr
                  have HS' := Lib.hid hs'
                  have Y4 := Lib.hid y4
                  generalize hlr : (G'.getD ky []).length = lr at o0 y4
                  have HLR := Lib.hid hlr
                  clear hgf hpt hgr hnext hBr hs' hpp hlr
                  go_wp2_with fail
                  obtain ⟨W1, hW1⟩ : ∃ x, x = wr.alloc (Obj.cells #[.int .i64 tm, .int .i64 mg] 57) := ⟨_, rfl⟩
                  have r1 : Same (fun _ => False) wr W1 := by rw [hW1]; exact Same.alloc _ wr _
                  have a0 : W1.cell? ⟨wr.heap.size, 0, none⟩ = some (.int .i64 tm) := by rw [hW1]; unfold World.cell?; rw [heap_alloc_new]; rfl
                  have a1 : W1.cell? ⟨wr.heap.size, 1, none⟩ = some (.int .i64 mg) := by rw [hW1]; unfold World.cell?; rw [heap_alloc_new]; rfl
                  rw [← hW1]
                  generalize wr.heap.size = pb at a0 a1 ⊢
                  have o1 := r1.cell (fun c => c) o0
                  have i1' := r1.cell (fun c => c) i1
                  have i2' := ((HBR.out.same r1 (fun c => c)).cell Y4.out).2
                  clear hW1 o0 i1 i2 c0 c1
                  have s1 : IntKind.i64.wrap (mg - a) = mg - a := wrap_i64 (by omega) (by omega)
                  have s2 : IntKind.i64.wrap ((mg - a) * (k : Int)) = (mg - a) * (k : Int) := wrap_i64 (by omega) (by omega)
                  have s3 : IntKind.i64.wrap (bb - a) = bb - a := wrap_i64 (by omega) (by omega)
                  have s4 : IntKind.i64.wrap (bb - a + 1) = bb - a + 1 := wrap_i64 (by omega) (by omega)
                  have s5 : IntKind.i64.wrap (((mg - a) * (k : Int)).tdiv (bb - a + 1)) = (ky : Int) := by
                    rw [Int.tdiv_eq_ediv_of_nonneg p1.1, y1]; exact wrap_i64 (by omega) (by omega)
                  have s6 : bb - a + 1 ≠ 0 := by omega
                  have t1 : IntKind.i64.wrap (tm - t) = tm - t := wrap_i64 (by omega) (by omega)
                  have t2 : IntKind.i64.wrap ((tm - t) * columns) = (tm - t) * columns := wrap_i64 (by omega) (by omega)
                  have t3 : IntKind.i64.wrap (u - t) = u - t := wrap_i64 (by omega) (by omega)
                  have t4 : IntKind.i64.wrap (u - t + 1) = u - t + 1 := wrap_i64 (by omega) (by omega)
                  have yk : (kx : Int) ≤ 8000000000 := by rw [← y2]; exact Int.le_trans (Int.ediv_le_self _ p2.1) p2.2
                  have t5 : IntKind.i64.wrap (((tm - t) * columns).tdiv (u - t + 1)) = (kx : Int) := by
                    rw [Int.tdiv_eq_ediv_of_nonneg p2.1, y2]; exact wrap_i64 (by omega) (by omega)
                  have t6 : u - t + 1 ≠ 0 := by omega
                  have z1 : (0 : Int) ≤ (ky : Int) := by omega
                  have z2 : (ky : Int) < (k : Int) := by omega
                  have z3 : (0 : Int) ≤ (kx : Int) := by omega
                  have z4 : (kx : Int) < (lr : Int) := by omega
                  have hky : ky < k := by omega
                  clear m1 m2 m3 m4 p1 p2 y1 y2 y3 y4
                  go_still_tail 26, (by kernel_rfl)
                  clear s1 s2 s3 s4 s5 s6 t1 t2 t3 t4 t5 t6 z1 z2 z3 z4 yk a0 a1 o1 i1' i2'
                  change wpList _ _ _ _ _ W1.drew
                  obtain ⟨W2, hW2⟩ : ∃ x, x = W1.drew := ⟨_, rfl⟩
                  have r2 : Same (fun _ => False) wr W2 := by rw [hW2]; exact r1.trans (Same.drew _ W1)
                  rw [← hW2]
                  clear hW2 r1
                  have b2 := HBR.out.same r2 (fun c => c)
                  obtain ⟨f1, f2⟩ := b2.cell Y4.out
                  clear b2
                  go_wp2_with fail
                  go_roundw
                  case rel =>
                    have hp := (hG'.out.still r2).put (by rw [hGl]; exact hky) HGR.out Y4.out 42
                    have e42 : byteV 42 = .int .u8 42 := rfl
                    rw [e42] at hp
                    exact ⟨k' + 1, _, by go_num, hkl, by rw [List.length_set]; exact hGl, Lib.hid hp, HNX, same_over (HS'.out.trans r2) (same_set _ _) fun x hx e => by have e : x = gr := e; omega⟩
                  case measure => simp [intOf]; omega
                · have hgf := hGF'.out
                  rw [List.drop_eq_nil_of_le (by have := HL.out; omega), plotG] at hgf
                  obtain rfl := Option.some.inj hgf
                  have HS' := Lib.hid hs'
                  clear hgf hs' hk'
                  go_wp2_with fail
                  have hs9 : Same (fun _ => False) w (wr.alloc (.cells #[] 9)) := (HS'.out).trans (Same.alloc _ wr _)
                  have g9 := Lib.hid ((hG'.out).still (Same.alloc _ wr (.cells #[] 9)))
                  have r9 : Hid (RowAt w.heap.size (wr.alloc (.cells #[] 9)) (.slice (some ⟨wr.heap.size, 0, none⟩) 0 0) []) := Lib.hid (ownsRow_base (new_row wr) (HS'.out).size)
                  obtain ⟨G9, hG9, hGk⟩ : ∃ G9, G9 = G' ∧ G9.length = k := ⟨_, rfl, hGl⟩
                  rw [← hG9] at g9
                  have HG9 := Lib.hid hG9
                  have HGK := Lib.hid hGk
                  clear hG9 hGk
                  go_loopw [16, 100] (fun vl i ws => LinesRel w G9 (.slice (some ⟨go, 0, none⟩) k co) vs vl i ws) (fun _ i _ => k - intOf i)
                  case atStart => exact ⟨0, rfl, Nat.zero_le _, g9, r9, hs9⟩
                  case round =>
                    clear g9 r9 hs9
                    obtain ⟨j, rfl, hj, hGj, hRj, hsj⟩ := hrel
                    have HSJ := Lib.hid hsj
                    clear hsj
                    by_cases hjk : j < k
                    · have hjG : j < G9.length := by have := HGK.out; omega
                      obtain ⟨gr, cr, hgr, hNr, hBr⟩ := hGj.out.row j hjG
                      have o0 := ownsRow_cell (by have := hGj.out.ow; rwa [HGK.out] at this) hjk
                      rw [hgr] at o0
                      have hown : wr.ownsRow w.heap.size 9 1 u16 j (rowV (G9.take j)) := by
                        have := hRj.out
                        unfold RowAt at this
                        rwa [List.length_take, Nat.min_eq_left (by omega)] at this
                      generalize hL : G9.getD j [] = L at hBr o0
                      have HO := Lib.hid hown
                      have HBR := Lib.hid hBr
                      have HLL := Lib.hid hL
                      clear hown hBr hL hgr hjG hj
                      obtain ⟨i0, hi, hz0, hz1, hz2⟩ := info_parts str_info
                      go_wp2_with (first
                        | (refine wpList_text wr rfl _ 22 9 rfl und_bytes und_str und_byte L gr cr rfl HBR.out ?_)
                        | (at_builtin; refine wpList_append_lies _ rfl _ _ 31 rfl w.heap.size 9 i0 _ 1 16 und_strs hi hz0 hz1 hz2 rfl (by omega) u16 j (rowV (G9.take j)) rfl (HO.out.alloc _) ⟨wr.heap.size, 0, none⟩ 1 1 [strV L] rfl rfl (World.news_of_block (cs := #[strV L]) (t := 9) (fr := (0, 0)) (heap_alloc_new wr _)) (by simp [strV, Value.oneCell']) (by omega) (by unfold maxLen; omega) (by omega) (by simp; have := HSJ.out.size; omega) (wr.heap.size + 1) (by simp) ?_; intro g cap6 w6 hown6 hgrow6 hat6 hlt6))
                      go_roundw
                      case rel => exact lines_step (by have := HGK.out; omega) hGj.out hRj.out HSJ.out (by rw [HLL.out]; exact hown6) hgrow6
                      case measure => simp [intOf]; omega
                    · go_wp2_with fail
                      go_ret2
                      have hRe := hRj.out
                      rw [List.take_of_length_le (by have := HGK.out; omega), HG9.out] at hRe
                      exact ⟨_, rfl, HSJ.out, hRe⟩
            · have hy := HH.out
              rw [decide_eq_false (show ¬ (0 : Int) < (l.length : Int) by have := HL.out; omega), if_neg Bool.false_ne_true] at hy
              obtain rfl := Option.some.inj hy
              obtain rfl : len = 0 := by omega
              clear hy
              go_wp2_with fail
              have hs9 : Same (fun _ => False) w (wr.alloc (.cells #[] 9)) := (HS.out).trans (Same.alloc _ wr _)
              have g9 := Lib.hid ((hG.out).still (Same.alloc _ wr (.cells #[] 9)))
              have r9 : Hid (RowAt w.heap.size (wr.alloc (.cells #[] 9)) (.slice (some ⟨wr.heap.size, 0, none⟩) 0 0) []) := Lib.hid (ownsRow_base (new_row wr) (HS.out).size)
              obtain ⟨G9, hG9, hGk⟩ : ∃ G9, G9 = List.replicate k row ∧ G9.length = k := ⟨_, rfl, by simp⟩
              rw [← hG9] at g9
              have HG9 := Lib.hid hG9
              have HGK := Lib.hid hGk
              clear hG9 hGk
              go_loopw [16, 100] (fun vl i ws => LinesRel w G9 (.slice (some ⟨go, 0, none⟩) k co) vs vl i ws) (fun _ i _ => k - intOf i)
              case atStart => exact ⟨0, rfl, Nat.zero_le _, g9, r9, hs9⟩
              case round =>
                clear g9 r9 hs9
                obtain ⟨j, rfl, hj, hGj, hRj, hsj⟩ := hrel
                have HSJ := Lib.hid hsj
                clear hsj
                by_cases hjk : j < k
                · have hjG : j < G9.length := by have := HGK.out; omega
                  obtain ⟨gr, cr, hgr, hNr, hBr⟩ := hGj.out.row j hjG
                  have o0 := ownsRow_cell (by have := hGj.out.ow; rwa [HGK.out] at this) hjk
                  rw [hgr] at o0
                  have hown : wr.ownsRow w.heap.size 9 1 u16 j (rowV (G9.take j)) := by
                    have := hRj.out
                    unfold RowAt at this
                    rwa [List.length_take, Nat.min_eq_left (by omega)] at this
                  generalize hL : G9.getD j [] = L at hBr o0
                  have HO := Lib.hid hown
                  have HBR := Lib.hid hBr
                  have HLL := Lib.hid hL
                  clear hown hBr hL hgr hjG hj
                  obtain ⟨i0, hi, hz0, hz1, hz2⟩ := info_parts str_info
                  go_wp2_with (first
                    | (refine wpList_text wr rfl _ 22 9 rfl und_bytes und_str und_byte L gr cr rfl HBR.out ?_)
                    | (at_builtin; refine wpList_append_lies _ rfl _ _ 31 rfl w.heap.size 9 i0 _ 1 16 und_strs hi hz0 hz1 hz2 rfl (by omega) u16 j (rowV (G9.take j)) rfl (HO.out.alloc _) ⟨wr.heap.size, 0, none⟩ 1 1 [strV L] rfl rfl (World.news_of_block (cs := #[strV L]) (t := 9) (fr := (0, 0)) (heap_alloc_new wr _)) (by simp [strV, Value.oneCell']) (by omega) (by unfold maxLen; omega) (by omega) (by simp; have := HSJ.out.size; omega) (wr.heap.size + 1) (by simp) ?_; intro g cap6 w6 hown6 hgrow6 hat6 hlt6))
                  go_roundw
                  case rel => exact lines_step (by have := HGK.out; omega) hGj.out hRj.out HSJ.out (by rw [HLL.out]; exact hown6) hgrow6
                  case measure => simp [intOf]; omega
                · go_wp2_with fail
                  go_ret2
                  have hRe := hRj.out
                  rw [List.take_of_length_le (by have := HGK.out; omega), HG9.out] at hRe
                  exact ⟨_, rfl, HSJ.out, hRe⟩

theorem m_cons {p : Point} {r : List Point} {a b : Int} {y : Int × Int} (h : spec_PlotLines_m (p :: r) a b = some y) : ∃ x z, spec_l00Min a p.Mag = some x ∧ spec_l00Max b p.Mag = some z ∧ spec_PlotLines_m r x z = some y := by
  rw [spec_PlotLines_m] at h
  obtain ⟨x, hx, h⟩ := bd_some h
  obtain ⟨z, hz, h⟩ := bd_some h
  exact ⟨x, z, hx, hz, h⟩

attribute [local irreducible] Calls in
set_option maxHeartbeats 16000000 in
theorem spec_walk {w : World} {av : Option Addr} {cap len : Nat} {l : List Point} {columns rows : Int} {y : List (List UInt8) × Int} (hlen : l.length = len) (hv : VR (fun _ => False) w (.slice av len cap) (.sl 2 (List.map Point_av l))) (hp : 0 < len → ∃ b off, av = some ⟨b, off, none⟩ ∧ b < w.heap.size ∧ PtAt w b off l)
    (hgt : GT (fun _ => False) w) (h : spec_PlotLines l columns rows = some y) :
    Calls Tryz.prog 13 #[.slice av len cap, .int .i64 columns, .int .i64 rows] w (PlotEnd w y) := by
  unfold spec_PlotLines at h
  obtain ⟨c, hc, h⟩ := bd_some h
  have hG : ∀ W, Same (fun _ => False) w W → GT (fun _ => False) W := fun W hs => hgt.mono hs fun _ _ c => c
  have hV : ∀ W, Same (fun _ => False) w W → VR (fun _ => False) W (.slice av len cap) (.sl 2 (List.map Point_av l)) := fun W hs => hv.mono hs fun _ _ c => c
  have HG := Lib.hid hG
  have HV := Lib.hid hV
  have HC := Lib.hid hc
  have HP := Lib.hid hp
  have HL := Lib.hid hlen
  clear hG hV hc hgt hv hp hlen
  cases c with
  | false =>
    rw [Bool.not_false, if_pos rfl] at h
    obtain rfl := Option.some.inj h
    clear h
    go_enter Tryz.func13, Tryz.ntmps13
    go_wp2_with (go_at_call 35; refine (l08Ok_calls HC.out (HV.out w (Same.refl _ w)) (HG.out w (Same.refl _ w))).mono ?_; rintro e w1 ⟨rfl, q1⟩)
    go_ret2
    exact ⟨_, rfl, q1, nil_row⟩
  | true =>
    rw [Bool.not_true, if_neg Bool.false_ne_true] at h
    obtain ⟨x, hx, h⟩ := bd_some h
    obtain ⟨z, hz, h⟩ := bd_some h
    have HX := Lib.hid hx
    have HZ := Lib.hid hz
    clear hx hz
    cases x with
    | false =>
      rw [Bool.not_false, Bool.true_or, if_pos rfl] at h
      obtain rfl := Option.some.inj h
      clear h
      go_enter Tryz.func13, Tryz.ntmps13
      go_wp2_with (first
        | (go_at_call 35; refine (l08Ok_calls HC.out (HV.out w (Same.refl _ w)) (HG.out w (Same.refl _ w))).mono ?_; rintro e w1 ⟨rfl, q1⟩)
        | (go_at_call 36; refine (l00In_calls HX.out (HG.out w1 q1)).mono ?_; rintro e w2 ⟨rfl, q2⟩))
      go_ret2
      exact ⟨_, rfl, q1.trans q2, nil_row⟩
    | true =>
      cases z with
      | false =>
        rw [Bool.not_false, Bool.or_true, if_pos rfl] at h
        obtain rfl := Option.some.inj h
        clear h
        go_enter Tryz.func13, Tryz.ntmps13
        go_wp2_with (first
          | (go_at_call 35; refine (l08Ok_calls HC.out (HV.out w (Same.refl _ w)) (HG.out w (Same.refl _ w))).mono ?_; rintro e w1 ⟨rfl, q1⟩)
          | (go_at_call 36; refine (l00In_calls HX.out (HG.out w1 q1)).mono ?_; rintro e w2 ⟨rfl, q2⟩)
          | (go_at_call 36; refine (l00In_calls HZ.out (HG.out w2 (q1.trans q2))).mono ?_; rintro e w3 ⟨rfl, q3⟩))
        go_ret2
        exact ⟨_, rfl, (q1.trans q2).trans q3, nil_row⟩
      | true =>
        rw [Bool.not_true, Bool.or_self, if_neg Bool.false_ne_true] at h
        obtain ⟨hb, h⟩ := ck_some h
        obtain ⟨row, hrow, h⟩ := bd_some h
        obtain ⟨hrl, h⟩ := ck_some h
        have hrl := of_decide_eq_true hrl
        simp only [Bool.and_eq_true, decide_eq_true_eq] at hb
        obtain ⟨⟨⟨⟨hb1, hb2⟩, hb3⟩, hb4⟩, hb5⟩ := hb
        obtain ⟨n, rfl⟩ : ∃ n : Nat, rows = (n : Int) := ⟨rows.toNat, by omega⟩
        rw [Int.toNat_natCast] at h
        have HR := Lib.hid hrow
        have HH := Lib.hid h
        clear hrow h
        have hln : len ≤ 1000000 := by have := HL.out; omega
        clear hb1
        go_enter Tryz.func13, Tryz.ntmps13
        go_wp2_with (first
          | (go_at_call 35; refine (l08Ok_calls HC.out (HV.out w (Same.refl _ w)) (HG.out w (Same.refl _ w))).mono ?_; rintro e w1 ⟨rfl, q1⟩)
          | (go_at_call 36; refine (l00In_calls HX.out (HG.out w1 q1)).mono ?_; rintro e w2 ⟨rfl, q2⟩)
          | (go_at_call 36; refine (l00In_calls HZ.out (HG.out w2 (q1.trans q2))).mono ?_; rintro e w3 ⟨rfl, q3⟩))
        have q3' : Same (fun _ => False) w (w3.alloc (.cells #[] 22)) := ((q1.trans q2).trans q3).trans (Same.alloc _ w3 _)
        have g3 := Lib.hid (grid_start' w3 ((q1.trans q2).trans q3).size)
        clear q1 q2 q3
        go_loopw [8, 9] (fun vo i wr => MadeRel w row n vo i wr) (fun _ i _ => n - intOf i)
        case atStart => exact ⟨0, [], rfl, Nat.zero_le _, g3, q3'⟩
        case round =>
          clear g3 q3'
          obtain ⟨k, vs, rfl, hk, hG, hs⟩ := hrel
          by_cases hkn : k < n
          · obtain ⟨i0, hi, hz0, hz1, hz2⟩ := info_parts bytes_info
            have hown : wr.ownsRow w.heap.size 22 1 u8 k vs := by have := hG.out.ow; rwa [List.length_replicate] at this
            have HO := Lib.hid hown
            have HS := Lib.hid hs
            clear hown
            go_wp2_with (first
              | (go_at_call 37; refine (blanks_calls HR.out (HG.out wr HS.out)).mono ?_; rintro e w4 ⟨rfl, q4⟩)
              | (refine wpList_bytes w4 rfl _ 9 22 rfl und_str und_bytes und_byte row rfl ?_; intro w5 c5 q5 z5 b5; clear z5)
              | (at_builtin; refine wpList_append_lies _ rfl _ _ 54 rfl w.heap.size 22 i0 _ 1 24 und_grid hi hz0 hz1 hz2 rfl (by omega) u8 k vs rfl ((ownsRow_same HO.out (q4.trans q5) (fun _ _ c => c)).alloc _) ⟨w5.heap.size, 0, none⟩ 1 1 [.slice (some ⟨w4.heap.size, 0, none⟩) row.length c5] rfl rfl (World.news_of_block (cs := #[.slice (some ⟨w4.heap.size, 0, none⟩) row.length c5]) (t := 22) (fr := (0, 0)) (heap_alloc_new w5 _)) (by simp [Value.oneCell']) (by omega) (by unfold maxLen; omega) (by omega) (by simp; have := q4.size; have := q5.size; have := HS.out.size; omega) (w5.heap.size + 1) (by simp) ?_; intro g cap6 w6 hown6 hgrow6 hat6 hlt6))
            go_roundw
            case rel => exact made_step hkn hG.out HS.out (q4.trans q5) b5 q4.size hown6 hgrow6
            case measure => simp [intOf]; omega
          · obtain rfl : k = n := by omega
            have HS := Lib.hid hs
            clear hs hk
            obtain ⟨go, co, hu8⟩ := ownsRow_slice hG.out.ow (by simp; omega)
            rw [List.length_replicate] at hu8
            subst hu8
            by_cases h0 : 0 < len
            · obtain ⟨b, off, rfl, hbw, hpt⟩ := HP.out h0
              have h := HH.out
              rw [decide_eq_true (show (0 : Int) < (l.length : Int) by have := HL.out; omega), if_pos rfl] at h
              obtain ⟨r, hr, h⟩ := bd_some h
              unfold plotE at h
              obtain ⟨hbd, h⟩ := ck_some h
              obtain ⟨G, hGf, h⟩ := bd_some h
              rw [Int.toNat_natCast] at hGf
              obtain rfl := Option.some.inj h
              simp only [Bool.and_eq_true, decide_eq_true_eq] at hbd
              obtain ⟨⟨⟨⟨⟨d1, d2⟩, d3⟩, d4⟩, d5⟩, d6⟩ := hbd
              have ht0 := hpt.c0 0 (by have := HL.out; omega)
              have ht1 := hpt.c0 (len - 1) (by have := HL.out; omega)
              have e2 := (hpt.same HS.out).c1 0 (by have := HL.out; omega)
              rw [HL.out] at d5 d6 hGf
              generalize (l.getD 0 default).Time = t at d4 d5 d6 hGf ht0
              generalize (l.getD (len - 1) default).Time = u at d5 d6 hGf ht1
              generalize (l.getD 0 default).Mag = m0 at hr e2
              obtain ⟨a, bb⟩ := r
              simp only at d1 d2 d3 hGf
              rw [Nat.zero_mul, Nat.add_zero] at e2 ht0
              have HMM := Lib.hid hr
              have HGF := Lib.hid hGf
              have HPT := Lib.hid hpt
              have HT0 := Lib.hid ht0
              have HT1 := Lib.hid ht1
              clear hr hGf hpt h ht0 ht1
              go_wp2_with fail
              clear e2
              go_loopw [11, 12, 13] (fun v11 v12 v13 ws => ∃ (j : Nat) (x z : Int), v11 = .int .i64 x ∧ v12 = .int .i64 z ∧ v13 = .int .i64 (j : Int) ∧ 1 ≤ j ∧ j ≤ len ∧ Hid (spec_PlotLines_m (l.drop j) x z = some (a, bb)) ∧ Hid (GridAt w.heap.size ws (.slice (some ⟨go, 0, none⟩) k co) vs (List.replicate k row)) ∧ Same (fun _ => False) w ws) (fun _ _ i _ => len - intOf i)
              case atStart => exact ⟨1, m0, m0, rfl, rfl, rfl, Nat.le_refl _, h0, HMM, hG, HS.out⟩
              case round =>
                clear hG HS HMM
                obtain ⟨j, x, z, rfl, rfl, rfl, hj1, hjl, hmm, hGm, hsm⟩ := hrel
                by_cases hjn : j < len
                · have hm := hmm.out
                  rw [drop_pt (by have := HL.out; omega)] at hm
                  obtain ⟨x', z', hx', hz', hm'⟩ := m_cons hm
                  have c1 := (HPT.out.same hsm).c1 j (by have := HL.out; omega)
                  generalize (l.getD j default).Mag = mg at hx' hz' c1
                  have HX' := Lib.hid hx'
                  have HZ' := Lib.hid hz'
                  have HM' := Lib.hid hm'
                  have HSM := Lib.hid hsm
                  clear hm hx' hz' hm' hmm hsm
                  go_wp2_with (first
                    | (go_at_call 38; refine (min_calls HX'.out (HG.out _ HSM.out)).mono ?_; rintro e w4 ⟨rfl, q4⟩; have c2 := q4.cell (fun c => c) c1)
                    | (go_at_call 39; refine (max_calls HZ'.out (HG.out _ (HSM.out.trans q4))).mono ?_; rintro e w5 ⟨rfl, q5⟩))
                  go_roundw
                  case rel => exact ⟨j + 1, x', z', rfl, rfl, by go_num, by omega, hjn, HM', Lib.hid (hGm.out.still (q4.trans q5)), HSM.out.trans (q4.trans q5)⟩
                  case measure => simp [intOf]; omega
                · have hm := hmm.out
                  rw [List.drop_eq_nil_of_le (by have := HL.out; omega), spec_PlotLines_m] at hm
                  obtain ⟨rfl, rfl⟩ : x = a ∧ z = bb := by simpa using hm
                  have HSM := Lib.hid hsm
                  clear hm hmm hsm
                  have e0 := HSM.out.cell (fun c => c) HT0.out
                  have e1 := HSM.out.cell (fun c => c) HT1.out
                  go_wp2_with fail
                  clear hjn hj1 hjl
                  have k1 : (0 : Int) < (len : Int) := by omega
                  have k2 : IntKind.i64.wrap ((len : Int) - 1) = ((len - 1 : Nat) : Int) := by rw [wrap_i64 (by omega) (by omega)]; omega
                  have k3 : (0 : Int) ≤ ((len - 1 : Nat) : Int) := by omega
                  have k4 : ((len - 1 : Nat) : Int) < (len : Int) := by omega
                  have k5 : (((len - 1 : Nat) : Int)).toNat = len - 1 := by omega
                  have k6 : IntKind.i64.wrap (u - t) = u - t := wrap_i64 (by omega) (by omega)
                  have k7 : IntKind.i64.wrap (u - t + 1) = u - t + 1 := wrap_i64 (by omega) (by omega)
                  go_quiet (fail)
                  clear k1 k2 k3 k4 k5 k6 k7
                  obtain ⟨w6, hw6⟩ : ∃ q, q = wr.drewN nq := ⟨_, rfl⟩
                  have q6 : Same (fun _ => False) wr w6 := by rw [hw6]; exact ⟨rfl, rfl, rfl, Nat.le_refl _, fun _ _ _ => rfl⟩
                  rw [← hw6]
                  clear hw6 e0 e1
                  go_wp2_with fail
                  have hs8 : Same (fun _ => False) w w6 := HSM.out.trans q6
                  have g8 := Lib.hid (hGm.out.still q6)
                  clear q6 hGm HSM
                  go_loopw [16] (fun i ws => ∃ (k' : Nat) (G' : List (List UInt8)), i = .int .i64 (k' : Int) ∧ k' ≤ len ∧ G'.length = k ∧ Hid (GridAt w.heap.size ws (.slice (some ⟨go, 0, none⟩) k co) vs G') ∧ Hid (plotG t u x z columns k (l.drop k') G' = some G) ∧ Same (fun _ => False) w ws) (fun i _ => len - intOf i)
                  case atStart => exact ⟨0, _, rfl, Nat.zero_le _, by simp, g8, HGF, hs8⟩
                  case round =>
                    clear g8 hs8 HGF
                    obtain ⟨k', G', rfl, hk', hGl, hG', hGF', hs'⟩ := hrel
                    by_cases hkl : k' < len
                    · have hgf := hGF'.out
                      rw [drop_pt (by have := HL.out; omega)] at hgf
                      have hpt := HPT.out.same hs'
                      have c0 := hpt.c0 k' (by have := HL.out; omega)
                      have c1 := hpt.c1 k' (by have := HL.out; omega)
                      have e0 := hs'.cell (fun c => c) HT0.out
                      generalize hpp : l.getD k' default = pp at hgf c0 c1
                      obtain ⟨tm, mg⟩ := pp
                      simp only at c0 c1
                      obtain ⟨ky, kx, ⟨m1, m2, m3, m4⟩, p1, p2, y1, y2, y3, y4, hnext⟩ := star_at hgf d1 d4 d3 d6 ⟨hb2, hb3⟩ ⟨hb4, hb5⟩
                      simp only at m1 m2 m3 m4 p1 p2 y1 y2
                      obtain ⟨gr, cr, hgr, hNr, hBr⟩ := hG'.out.row ky y3
                      have o0 := ownsRow_cell (by have := hG'.out.ow; rwa [hGl] at this) (show ky < k by omega)
                      rw [hgr] at o0
                      have HGR := Lib.hid hgr
                      have HNX := Lib.hid hnext
                      have HBR := Lib.hid hBr
                      have HS' := Lib.hid hs'
                      have Y4 := Lib.hid y4
                      generalize hlr : (G'.getD ky []).length = lr at o0 y4
                      have HLR := Lib.hid hlr
                      clear hgf hpt hgr hnext hBr hs' hpp hlr
                      go_wp2_with fail
                      have yk : (kx : Int) ≤ 8000000000 := by rw [← y2]; exact Int.le_trans (Int.ediv_le_self _ p2.1) p2.2
                      have t1 : IntKind.i64.wrap (tm - t) = tm - t := wrap_i64 (by omega) (by omega)
                      have t2 : IntKind.i64.wrap ((tm - t) * columns) = (tm - t) * columns := wrap_i64 (by omega) (by omega)
                      have t5 : IntKind.i64.wrap (((tm - t) * columns).tdiv (u - t + 1)) = (kx : Int) := by
                        rw [Int.tdiv_eq_ediv_of_nonneg p2.1, y2]; exact wrap_i64 (by omega) (by omega)
                      have t6 : u - t + 1 ≠ 0 := by omega
                      have z1 : (0 : Int) ≤ (k' : Int) := by omega
                      have z2 : (k' : Int) < (len : Int) := by omega
                      have z3 : (0 : Int) < (len : Int) := by omega
                      go_quiet (fail)
                      clear t1 t2 t5 t6 z1 z2 z3
                      obtain ⟨W1, hW1⟩ : ∃ q, q = wr.drewN nq := ⟨_, rfl⟩
                      have r1 : Same (fun _ => False) wr W1 := by rw [hW1]; exact ⟨rfl, rfl, rfl, Nat.le_refl _, fun _ _ _ => rfl⟩
                      rw [← hW1]
                      have o1 := r1.cell (fun c => c) o0
                      have c1' := r1.cell (fun c => c) c1
                      obtain ⟨i1, i2⟩ := (HBR.out.same r1 (fun c => c)).cell Y4.out
                      clear hW1 o0 c0 c1 e0
                      go_wp2_with fail

                      go_roundw
                      case rel =>
                        have hp := (hG'.out.still r1).put (by rw [hGl]; omega) HGR.out Y4.out 42
                        have e42 : byteV 42 = .int .u8 42 := rfl
                        rw [e42] at hp
                        exact ⟨k' + 1, _, by go_num, hkl, by rw [List.length_set]; exact hGl, Lib.hid hp, HNX, same_over (HS'.out.trans r1) (same_set _ _) fun x hx e => by have e : x = gr := e; omega⟩
                      case measure => simp [intOf]; omega
                    · have hgf := hGF'.out
                      rw [List.drop_eq_nil_of_le (by have := HL.out; omega), plotG] at hgf
                      obtain rfl := Option.some.inj hgf
                      have HS' := Lib.hid hs'
                      clear hgf hs' hk'
                      go_wp2_with fail
                      have hs9 : Same (fun _ => False) w (wr.alloc (.cells #[] 9)) := (HS'.out).trans (Same.alloc _ wr _)
                      have g9 := Lib.hid ((hG'.out).still (Same.alloc _ wr (.cells #[] 9)))
                      have r9 : Hid (RowAt w.heap.size (wr.alloc (.cells #[] 9)) (.slice (some ⟨wr.heap.size, 0, none⟩) 0 0) []) := Lib.hid (ownsRow_base (new_row wr) (HS'.out).size)
                      obtain ⟨G9, hG9, hGk⟩ : ∃ G9, G9 = G' ∧ G9.length = k := ⟨_, rfl, hGl⟩
                      rw [← hG9] at g9
                      have HG9 := Lib.hid hG9
                      have HGK := Lib.hid hGk
                      clear hG9 hGk
                      go_loopw [19, 20] (fun vl i ws => LinesRel w G9 (.slice (some ⟨go, 0, none⟩) k co) vs vl i ws) (fun _ i _ => k - intOf i)
                      case atStart => exact ⟨0, rfl, Nat.zero_le _, g9, r9, hs9⟩
                      case round =>
                        clear g9 r9 hs9
                        obtain ⟨j, rfl, hj, hGj, hRj, hsj⟩ := hrel
                        have HSJ := Lib.hid hsj
                        clear hsj
                        by_cases hjk : j < k
                        · have hjG : j < G9.length := by have := HGK.out; omega
                          obtain ⟨gr, cr, hgr, hNr, hBr⟩ := hGj.out.row j hjG
                          have o0 := ownsRow_cell (by have := hGj.out.ow; rwa [HGK.out] at this) hjk
                          rw [hgr] at o0
                          have hown : wr.ownsRow w.heap.size 9 1 u19 j (rowV (G9.take j)) := by
                            have := hRj.out
                            unfold RowAt at this
                            rwa [List.length_take, Nat.min_eq_left (by omega)] at this
                          generalize hL : G9.getD j [] = L at hBr o0
                          have HO := Lib.hid hown
                          have HBR := Lib.hid hBr
                          have HLL := Lib.hid hL
                          clear hown hBr hL hgr hjG hj
                          obtain ⟨i0, hi, hz0, hz1, hz2⟩ := info_parts str_info
                          go_wp2_with (first
                            | (refine wpList_text wr rfl _ 22 9 rfl und_bytes und_str und_byte L gr cr rfl HBR.out ?_)
                            | (at_builtin; refine wpList_append_lies _ rfl _ _ 31 rfl w.heap.size 9 i0 _ 1 16 und_strs hi hz0 hz1 hz2 rfl (by omega) u19 j (rowV (G9.take j)) rfl (HO.out.alloc _) ⟨wr.heap.size, 0, none⟩ 1 1 [strV L] rfl rfl (World.news_of_block (cs := #[strV L]) (t := 9) (fr := (0, 0)) (heap_alloc_new wr _)) (by simp [strV, Value.oneCell']) (by omega) (by unfold maxLen; omega) (by omega) (by simp; have := HSJ.out.size; omega) (wr.heap.size + 1) (by simp) ?_; intro g cap6 w6 hown6 hgrow6 hat6 hlt6))
                          go_roundw
                          case rel => exact lines_step (by have := HGK.out; omega) hGj.out hRj.out HSJ.out (by rw [HLL.out]; exact hown6) hgrow6
                          case measure => simp [intOf]; omega
                        · go_wp2_with fail
                          go_ret2
                          have hRe := hRj.out
                          rw [List.take_of_length_le (by have := HGK.out; omega), HG9.out] at hRe
                          exact ⟨_, rfl, HSJ.out, hRe⟩
            · have hy := HH.out
              rw [decide_eq_false (show ¬ (0 : Int) < (l.length : Int) by have := HL.out; omega), if_neg Bool.false_ne_true] at hy
              obtain rfl := Option.some.inj hy
              obtain rfl : len = 0 := by omega
              clear hy
              go_wp2_with fail
              have hs9 : Same (fun _ => False) w (wr.alloc (.cells #[] 9)) := (HS.out).trans (Same.alloc _ wr _)
              have g9 := Lib.hid ((hG.out).still (Same.alloc _ wr (.cells #[] 9)))
              have r9 : Hid (RowAt w.heap.size (wr.alloc (.cells #[] 9)) (.slice (some ⟨wr.heap.size, 0, none⟩) 0 0) []) := Lib.hid (ownsRow_base (new_row wr) (HS.out).size)
              obtain ⟨G9, hG9, hGk⟩ : ∃ G9, G9 = List.replicate k row ∧ G9.length = k := ⟨_, rfl, by simp⟩
              rw [← hG9] at g9
              have HG9 := Lib.hid hG9
              have HGK := Lib.hid hGk
              clear hG9 hGk
              go_loopw [19, 20] (fun vl i ws => LinesRel w G9 (.slice (some ⟨go, 0, none⟩) k co) vs vl i ws) (fun _ i _ => k - intOf i)
              case atStart => exact ⟨0, rfl, Nat.zero_le _, g9, r9, hs9⟩
              case round =>
                clear g9 r9 hs9
                obtain ⟨j, rfl, hj, hGj, hRj, hsj⟩ := hrel
                have HSJ := Lib.hid hsj
                clear hsj
                by_cases hjk : j < k
                · have hjG : j < G9.length := by have := HGK.out; omega
                  obtain ⟨gr, cr, hgr, hNr, hBr⟩ := hGj.out.row j hjG
                  have o0 := ownsRow_cell (by have := hGj.out.ow; rwa [HGK.out] at this) hjk
                  rw [hgr] at o0
                  have hown : wr.ownsRow w.heap.size 9 1 u19 j (rowV (G9.take j)) := by
                    have := hRj.out
                    unfold RowAt at this
                    rwa [List.length_take, Nat.min_eq_left (by omega)] at this
                  generalize hL : G9.getD j [] = L at hBr o0
                  have HO := Lib.hid hown
                  have HBR := Lib.hid hBr
                  have HLL := Lib.hid hL
                  clear hown hBr hL hgr hjG hj
                  obtain ⟨i0, hi, hz0, hz1, hz2⟩ := info_parts str_info
                  go_wp2_with (first
                    | (refine wpList_text wr rfl _ 22 9 rfl und_bytes und_str und_byte L gr cr rfl HBR.out ?_)
                    | (at_builtin; refine wpList_append_lies _ rfl _ _ 31 rfl w.heap.size 9 i0 _ 1 16 und_strs hi hz0 hz1 hz2 rfl (by omega) u19 j (rowV (G9.take j)) rfl (HO.out.alloc _) ⟨wr.heap.size, 0, none⟩ 1 1 [strV L] rfl rfl (World.news_of_block (cs := #[strV L]) (t := 9) (fr := (0, 0)) (heap_alloc_new wr _)) (by simp [strV, Value.oneCell']) (by omega) (by unfold maxLen; omega) (by omega) (by simp; have := HSJ.out.size; omega) (wr.heap.size + 1) (by simp) ?_; intro g cap6 w6 hown6 hgrow6 hat6 hlt6))
                  go_roundw
                  case rel => exact lines_step (by have := HGK.out; omega) hGj.out hRj.out HSJ.out (by rw [HLL.out]; exact hown6) hgrow6
                  case measure => simp [intOf]; omega
                · go_wp2_with fail
                  go_ret2
                  have hRe := hRj.out
                  rw [List.take_of_length_le (by have := HGK.out; omega), HG9.out] at hRe
                  exact ⟨_, rfl, HSJ.out, hRe⟩

/-! ### The contracts -/

noncomputable def ptL : List AV → Option (List Point)
  | [] => some []
  | .agg [.int .i64 t, .int .i64 m] :: r => (ptL r).map fun l => ⟨t, m⟩ :: l
  | _ => none

theorem ptL_map : ∀ l : List Point, ptL (List.map Point_av l) = some l
  | [] => rfl
  | e :: l => by
    show ptL (.agg [.int .i64 e.Time, .int .i64 e.Mag] :: List.map Point_av l) = _
    rw [ptL, ptL_map l]; rfl

theorem ptL_inv : ∀ {els : List AV} {l : List Point}, ptL els = some l → els = List.map Point_av l
  | [], l, h => by cases h; rfl
  | a :: r, l, h => by
    unfold ptL at h
    split at h
    · rename_i h0; cases h0
    · rename_i t m r' h0
      cases h0
      cases hr : ptL r with
      | none => rw [hr] at h; cases h
      | some l' =>
        rw [hr] at h
        cases h
        rw [ptL_inv hr]; rfl
    · cases h

noncomputable def plotF (f : List Point → Int → Int → Option (List (List UInt8) × Int)) : List AV → Rs
  | [.sl 2 els, .int .i64 c, .int .i64 r] => match (ptL els).bind fun l => f l c r with
    | some y => ⟨true, .tup [.sl 1 (List.map AV.str y.1), .int .i64 y.2], [.any, .any, .any]⟩
    | none => Rs.bad
  | _ => Rs.bad

theorem plotF_eq {f : List Point → Int → Int → Option (List (List UInt8) × Int)} {l : List Point} {c r : Int} {y : List (List UInt8) × Int} (h : f l c r = some y) : plotF f [.sl 2 (List.map Point_av l), .int .i64 c, .int .i64 r] = ⟨true, .tup [.sl 1 (List.map AV.str y.1), .int .i64 y.2], [.any, .any, .any]⟩ := by
  show (match (ptL (List.map Point_av l)).bind fun l => f l c r with
    | some y => (⟨true, .tup [.sl 1 (List.map AV.str y.1), .int .i64 y.2], [.any, .any, .any]⟩ : Rs)
    | none => Rs.bad) = _
  rw [ptL_map, Option.bind_some, h]

theorem plotF_inv {f : List Point → Int → Int → Option (List (List UInt8) × Int)} {args : List AV} (h : (plotF f args).ok = true) : ∃ l c r y, f l c r = some y ∧ args = [.sl 2 (List.map Point_av l), .int .i64 c, .int .i64 r] := by
  unfold plotF at h
  split at h
  · rename_i els c r
    split at h
    · rename_i y hy
      obtain ⟨l, h1, h2⟩ := Option.bind_eq_some_iff.1 hy
      exact ⟨l, c, r, y, h2, by rw [ptL_inv h1]⟩
    · cases h
  · cases h

theorem vargs_three {vargs : Array Value} (h : vargs.size = 3) : vargs = #[vargs.getD 0 undef, vargs.getD 1 undef, vargs.getD 2 undef] := by
  obtain ⟨l⟩ := vargs
  match l, h with
  | [a, b, c], _ => rfl

theorem plot_sound {f : FuncId} {F : List Point → Int → Int → Option (List (List UInt8) × Int)} (he : Enters Tryz.prog f)
    (hw : ∀ {w : World} {av : Option Addr} {cap len : Nat} {l : List Point} {columns rows : Int} {y : List (List UInt8) × Int}, l.length = len → VR (fun _ => False) w (.slice av len cap) (.sl 2 (List.map Point_av l)) → (0 < len → ∃ b off, av = some ⟨b, off, none⟩ ∧ b < w.heap.size ∧ PtAt w b off l) →
      GT (fun _ => False) w → F l columns rows = some y → Calls Tryz.prog f #[.slice av len cap, .int .i64 columns, .int .i64 rows] w (PlotEnd w y)) : Sound Tryz.prog f ⟨[.bor, .bor, .bor], false, plotF F⟩ := by
  refine ⟨fun e => Bool.noConfusion e, fun Fz g0 w args vargs hsh hsz hfr hok => ⟨fun e => Bool.noConfusion e, ?_⟩⟩
  obtain ⟨l, c, r, y, hy, rfl⟩ := plotF_inv hok
  have h0 := arg_VR hfr (i := 0) (by simp)
  have h1 := arg_VR hfr (i := 1) (by simp)
  have h2 := arg_VR hfr (i := 2) (by simp)
  rw [vargs_three hsz]
  generalize vargs.getD 0 undef = v at h0
  generalize vargs.getD 1 undef = v1 at h1
  generalize vargs.getD 2 undef = v2 at h2
  have hv : VR (fun _ => False) w v (.sl 2 (List.map Point_av l)) := VR.mono (Same.refl _ _) (fun _ _ c => c.elim) h0
  cases h1
  cases h2
  obtain ⟨a, cap, rfl, hp⟩ := pts_of hv
  unfold Invokes
  rw [he]
  show Calls _ _ _ _ fun e w' => ∃ v g ob κ, e = .returned v ∧ Back Fz g0 _ _ w v w' (plotF F [.sl 2 (List.map Point_av l), .int .i64 c, .int .i64 r]).r (plotF F [.sl 2 (List.map Point_av l), .int .i64 c, .int .i64 r]).outs g ob κ
  rw [plotF_eq hy]
  refine (hw rfl hv hp (hfr.tab.mono (Same.refl _ _) fun _ _ c => c.elim) hy).mono ?_
  rintro e' w' ⟨vl, rfl, hs, hR⟩
  refine ⟨_, g0, [], id, rfl, back_val hs ⟨_, rfl, rfl, fun j hj => ?_⟩ (fun i hi => ?_) (fun j => ?_)⟩
  · match j, hj with
    | 0, _ =>
      refine row_VR hR fun b hb c => ?_
      rcases c with c | ⟨k, ⟨⟨h, hg⟩, _⟩, _⟩
      · have := hfr.fb b c; have := (ownsRow_lt hR hb).1; omega
      · simp [obGet] at hg
    | 1, _ => exact .int
  · obtain ⟨j, _, hj, hf⟩ := hi
    match j, hj with
    | 0, _ => exact absurd hf Bool.false_ne_true
    | 1, _ => exact absurd hf Bool.false_ne_true
  · match j with
    | 0 => intro h; cases h
    | 1 => intro h; cases h
    | 2 => intro h; cases h
    | j + 3 => simp

end Go.Proofs.YtbobhejdijcofaaGreatDoor.plot
namespace Go.Proofs.YtbobhejdijcofaaGreatDoor
open Go Go.RowKit
set_option maxRecDepth 100000

noncomputable def c_impl_PlotLines : Ctr := ⟨[.bor, .bor, .bor], false, plot.plotF impl_PlotLines⟩
noncomputable def c_spec_PlotLines : Ctr := ⟨[.bor, .bor, .bor], false, plot.plotF spec_PlotLines⟩
theorem Fs_impl_PlotLines {curve : List Point} {columns rows : Int} {y_ : List (List UInt8) × Int} (h : impl_PlotLines curve columns rows = some y_) : c_impl_PlotLines.F [.sl 2 (List.map Point_av curve), .int .i64 columns, .int .i64 rows] = ⟨true, .tup [.sl 1 (List.map AV.str y_.1), .int .i64 y_.2], [.any, .any, .any]⟩ := plot.plotF_eq h
theorem Fs_spec_PlotLines {curve : List Point} {columns rows : Int} {y_ : List (List UInt8) × Int} (h : spec_PlotLines curve columns rows = some y_) : c_spec_PlotLines.F [.sl 2 (List.map Point_av curve), .int .i64 columns, .int .i64 rows] = ⟨true, .tup [.sl 1 (List.map AV.str y_.1), .int .i64 y_.2], [.any, .any, .any]⟩ := plot.plotF_eq h
theorem M_impl_PlotLines : c_impl_PlotLines.modes = [.bor, .bor, .bor] := rfl
theorem Fl_impl_PlotLines : c_impl_PlotLines.flat = false := rfl
theorem M_spec_PlotLines : c_spec_PlotLines.modes = [.bor, .bor, .bor] := rfl
theorem Fl_spec_PlotLines : c_spec_PlotLines.flat = false := rfl
attribute [go_sem] M_impl_PlotLines Fl_impl_PlotLines M_spec_PlotLines Fl_spec_PlotLines
theorem s_impl_PlotLines : Sound Tryz.prog 12 c_impl_PlotLines := plot.plot_sound (Go.Proofs.enters_of (P := Tryz.prog) Tryz.func12 (by kernel_rfl) rfl) plot.impl_walk
theorem s_spec_PlotLines : Sound Tryz.prog 13 c_spec_PlotLines := plot.plot_sound (Go.Proofs.enters_of (P := Tryz.prog) Tryz.func13 (by kernel_rfl) rfl) plot.spec_walk

end Go.Proofs.YtbobhejdijcofaaGreatDoor
