/- slices.Collect of slices.Values at lists of windows, at this translation: walked by hand. No condition. -/
import Derived.Test.YtikaacjlnkfebaaCVT
import Derived.Test.YtikaacjlnkfebaaRows
import Derived.RangeFuncNested
import Derived.RangeFuncBox
import Derived.RangeFuncBound
import Derived.RangeFuncCalls
import Derived.RangeFuncLeaves
import Derived.Shelf.Abstract
import Derived.Shelf.RegionOpen
import Derived.Maps.AppendAt
import Derived.OwnWalkIn
import Derived.TacticsInMore
import Derived.LoopNIn
import Derived.LoopIn
import Derived.WalkKit
import Derived.Lib.Hide
namespace Go.Proofs.Ytikaacjlnkfebaa.colw
open Go Go.RowKit Go.Shelf Go.Proofs.Ytikaacjlnkfebaa
set_option linter.unusedVariables false
set_option linter.unusedSimpArgs false
set_option maxRecDepth 100000

attribute [local go_sem] Oper.semAt_some

structure WinAt (W : World) (b off n : Nat) (p q : Nat → Int) : Prop where
  c0 : ∀ k, k < n → W.cell? ⟨b, off + k * 2, none⟩ = some (.int .i64 (p k))
  c1 : ∀ k, k < n → W.cell? ⟨b, off + k * 2 + 1, none⟩ = some (.int .i64 (q k))

theorem WinAt.below {n₀ : Nat} {A B : World} (h : Below n₀ A B) {b off n : Nat} {p q : Nat → Int} (hb : b < n₀) (he : WinAt A b off n p q) : WinAt B b off n p q :=
  ⟨fun k hk => (h.cell (p := ⟨b, _, none⟩) hb).trans (he.c0 k hk), fun k hk => (h.cell (p := ⟨b, _, none⟩) hb).trans (he.c1 k hk)⟩

set_option maxHeartbeats 2000000 in
/-- slices.Values's closure, for every loop body that keeps what lay below n₀. -/
theorem vals_in (F : Fence) (n : Nat) (hf : F.fn 142) (hro : F.round = none) (hn : 1 ≤ n) (l Bs po n₀ b off len cap : Nat) (p q : Nat → Int) (hlen : len ≤ 1099511627776) (hb : b < n₀) (J Jx : List Nat → World → Prop)
    (hJ : ∀ s W o, J s W → J s (W.alloc o))
    (hY : ∀ pre x W, J pre W → pre.length < len → YieldAt F (n - 1) Try.prog l #[.agg #[.int .i64 (p x), .int .i64 (q x)]] W fun e W' =>
      (e = .returned (.bool true) ∧ J (pre ++ [x]) W' ∧ Below n₀ W W') ∨ (e = .returned (.bool false) ∧ Jx (pre ++ [x]) W'))
    (W : World) (hn0 : n₀ ≤ W.heap.size) (hBs : W.cell? ⟨Bs, po, none⟩ = some (.slice (some ⟨b, off, none⟩) len cap)) (hc : WinAt W b off len p q) (h0 : J [] W) :
    CallsIn F n Try.prog 142 #[.func (.yield l) #[] #[], .pointer (some ⟨Bs, po, none⟩)] W fun e W' => (∃ v, e = .returned v) ∧
      ((∃ ys, ys = List.range len ∧ J ys W') ∨ (∃ pre, (∃ k, k ≤ len ∧ pre = List.range k) ∧ Jx pre W')) := by
  refine callsIn_of_wp Try.func142 rfl hf ?_ hro
  simp only [Try.ntmps142, List.size_toArray, List.length_cons, List.length_nil, Nat.reduceAdd, Nat.reduceSub, Array.replicate_succ, Array.replicate_zero, List.push_toArray, List.append_toArray, List.nil_append, List.cons_append]
  gi_wp2
  gi_loopw [7] (fun i wr => ∃ k : Nat, k ≤ len ∧ i = .int .i64 k ∧ J (List.range k) wr ∧ Below n₀ W wr)
    (fun i _ => len - (intOf i).toNat)
  case atStart => exact ⟨0, Nat.zero_le _, rfl, h0, Below.refl _ _⟩
  case round =>
    obtain ⟨k, hk, rfl, hJs, hnx⟩ := hrel
    by_cases hlt : k < len
    · have hcs := hc.below hnx hb
      have q0 := hcs.c0 k hlt
      have q1 := hcs.c1 k hlt
      have hyy := hY (List.range k) k
      obtain ⟨X, hX⟩ : ∃ X, X = p k := ⟨_, rfl⟩
      obtain ⟨Y, hYY⟩ : ∃ Y, Y = q k := ⟨_, rfl⟩
      rw [← hX] at q0 hyy
      rw [← hYY] at q1 hyy
      obtain ⟨fn, tmps, assign, body, hy, hR⟩ := hyy (wr.alloc (.cells #[.int .i64 X, .int .i64 Y] 37)) (hJ _ _ _ hJs) (by simpa using hlt)
      have hb1 := Lib.hid (hnx.alloc (Nat.le_trans hn0 hnx.size) (.cells #[.int .i64 X, .int .i64 Y] 37))
      clear hX hYY hcs hc hY hyy hJ
      gi_wp2
      refine hR.mono ?_
      rintro e W3 (⟨rfl, hJ3, hk3⟩ | ⟨rfl, hJx3⟩)
      · gi_wp2
        go_roundw
        case rel => exact ⟨k + 1, by omega, by simp, by rw [List.range_succ]; exact hJ3, hb1.out.trans hk3⟩
        case measure => simp [intOf]; omega
      · gi_wp2
        refine bodyPost_ret (results_none rfl _ _ _) rfl ?_
        exact ⟨⟨_, rfl⟩, .inr ⟨_, ⟨k + 1, by omega, by rw [List.range_succ]⟩, hJx3⟩⟩
    · obtain rfl : k = len := by omega
      gi_wp2
      go_end0
      exact ⟨⟨_, rfl⟩, .inl ⟨_, rfl, hJs⟩⟩


set_option maxHeartbeats 1000000 in
theorem vals_nil_in (F : Fence) (n : Nat) (hf : F.fn 142) (hro : F.round = none) (l Bs po : Nat) (a : Option Addr) (cap : Nat) (J : List Nat → World → Prop) (W : World) (hBs : W.cell? ⟨Bs, po, none⟩ = some (.slice a 0 cap)) (h0 : J [] W) :
    CallsIn F n Try.prog 142 #[.func (.yield l) #[] #[], .pointer (some ⟨Bs, po, none⟩)] W fun e W' => (∃ v, e = .returned v) ∧ J [] W' := by
  refine callsIn_of_wp Try.func142 rfl hf ?_ hro
  simp only [Try.ntmps142, List.size_toArray, List.length_cons, List.length_nil, Nat.reduceAdd, Nat.reduceSub, Array.replicate_succ, Array.replicate_zero, List.push_toArray, List.append_toArray, List.nil_append, List.cons_append]
  gi_wp2
  gi_loopw [7] (fun i wr => i = .int .i64 0 ∧ J [] wr) (fun _ _ => 0)
  case atStart => exact ⟨rfl, h0⟩
  case round =>
    obtain ⟨rfl, hJs⟩ := hrel
    gi_wp2
    go_end0
    exact ⟨⟨_, rfl⟩, hJs⟩

/-- The slice value holds the windows, in a block below n₀; or there are none. -/
def Wins (n₀ : Nat) (W : World) (sv : Value) (n : Nat) (p q : Nat → Int) : Prop :=
  ∃ a cap, sv = .slice a n cap ∧ (0 < n → ∃ b off, a = some ⟨b, off, none⟩ ∧ b < n₀ ∧ WinAt W b off n p q)

theorem vals_stops (F : Fence) (n : Nat) (hf : F.fn 142) (hro : F.round = none) (hn : 1 ≤ n) (Bs po : Nat) (sv : Value) (len : Nat) (p q : Nat → Int) (h100 : len ≤ 1099511627776) (w : World) (hBs : Bs < w.heap.size)
    (hc : w.cell? ⟨Bs, po, none⟩ = some sv) (hI : Wins w.heap.size w sv len p q) :
    SeqStopsK F n Try.prog 142 #[.pointer (some ⟨Bs, po, none⟩)] (fun x : Nat => #[Value.agg #[.int .i64 (p x), .int .i64 (q x)]]) (Below w.heap.size) (fun ys => ys = List.range len)
      (fun pre => ∃ k, k ≤ len ∧ pre = List.range k) len w := fun l J Jx W hW hJ _ hY h0 => by
  have hc' := (hW.cell (p := ⟨Bs, po, none⟩) hBs).trans hc
  obtain ⟨a, cap, rfl, hp⟩ := hI
  rcases Nat.eq_zero_or_pos len with h | h
  · rw [h] at hc'
    refine (vals_nil_in F n hf hro l Bs po a cap J W hc' h0).mono fun e W' ⟨he, hj⟩ => ⟨he, .inl ⟨[], by rw [h]; rfl, hj⟩⟩
  · obtain ⟨b, off, rfl, hb, he⟩ := hp h
    exact vals_in F n hf hro hn l Bs po w.heap.size b off len cap p q h100 hb J Jx (fun s W o hs => hJ s W _ none hs (World.grownBy_alloc W o none) (fun r e => by cases e)) hY W hW.size hc' (he.below hW hb) h0

/-- What has been collected, as cells. -/
def rows (p q : Nat → Int) (l : List Nat) : List Value := l.flatMap fun k => [.int .i64 (p k), .int .i64 (q k)]

theorem rows_len (p q : Nat → Int) : ∀ l : List Nat, (rows p q l).length = l.length * 2
  | [] => rfl
  | k :: l => by
    have := rows_len p q l
    simp only [rows, List.flatMap_cons, List.length_append, List.length_cons] at this ⊢
    rw [this]; simp only [List.length_nil]; omega

theorem win_info : (Try.prog.info? 37).map (fun i => (i.zero, i.size, i.bytes)) = some (some (.agg #[.int .i64 0, .int .i64 0]), 2, 16) := by kernel_rfl

theorem und_list : Try.prog.underlying 30 = some (.slice 37) := by kernel_rfl

theorem cell_two_new (w : World) (x y : Value) (t : TypeId) : ∀ j u, [x, y][j]? = some u → (w.alloc (.cells #[x, y] t)).cell? ((⟨w.heap.size, 0, none⟩ : Addr).add j) = some u := by
  intro j u hj
  have hb := World.alloc_heap_new w (.cells #[x, y] t)
  have hadd : (⟨w.heap.size, 0, none⟩ : Addr).add j = ⟨w.heap.size, j, none⟩ := by unfold Addr.add; split <;> simp_all
  rw [hadd, cell_of_row _ _ j #[x, y] t (0, 0) hb]
  simpa using hj

set_option maxHeartbeats 4000000 in
theorem app_in (F : Fence) (n : Nat) (f0 : F.fn 159) (f2 : F.fn 142) (hro : F.round = none) (hn : 5 ≤ n) (Bs po : Nat) (sv : Value) (len : Nat) (p q : Nat → Int) (h100 : len ≤ 1099511627776) (w : World) (hBs : Bs < w.heap.size)
    (hc : w.cell? ⟨Bs, po, none⟩ = some sv) (hI : Wins w.heap.size w sv len p q) :
    CallsIn F n Try.prog 159 #[.slice none 0 0, .func (.func 142) #[] #[.pointer (some ⟨Bs, po, none⟩)]] w fun e W' => ∃ v, e = .returned v ∧ W'.ownsRow w.heap.size 37 2 v len (rows p q (List.range len)) ∧ Below w.heap.size w W' := by
  have h1 : 1 ≤ n := by omega
  refine callsIn_of_wp_marks Try.func159 rfl f0 ?_ hro
  simp only [Try.ntmps159, List.size_toArray, List.length_cons, List.length_nil, Nat.reduceAdd, Nat.reduceSub, Array.replicate_succ, Array.replicate_zero, List.push_toArray, List.append_toArray, List.nil_append, List.cons_append]
  have hI' := Lib.hid hI
  have hc' := Lib.hid hc
  have hBs' := Lib.hid hBs
  have h100' := Lib.hid h100
  clear hI hc hBs h100
  gi_wp2
  have hB0 : Below w.heap.size w (w.alloc (Obj.cells #[Value.slice none 0 0] 30)) := (Below.refl _ w).alloc (Nat.le_refl _) _
  have bB : Boxed (w.alloc (Obj.cells #[Value.slice none 0 0] 30)) w.heap.size 30 (.slice none 0 0) := Boxed.new _ _ _
  have hsz : (w.alloc (Obj.cells #[Value.slice none 0 0] 30)).heap.size = w.heap.size + 1 := World.size_alloc _ _
  obtain ⟨W0, hW0⟩ : ∃ W0, w.alloc (Obj.cells #[Value.slice none 0 0] 30) = W0 := ⟨_, rfl⟩
  rw [hW0] at hB0 bB hsz ⊢
  clear hW0
  refine wpIn_rangeFunc_ownH hro h1 (gf := 142) (lb := #[.pointer (some ⟨Bs, po, none⟩)]) rfl f2 (enters_of Try.func142 (by kernel_rfl) rfl)
    (vals_stops F (n - 1) f2 hro (by omega) Bs po sv len p q h100'.out w hBs'.out hc'.out hI'.out) belowK_t (belowK_b (by omega)) hB0 (fun _ => rfl)
    (fun pre W => (∃ v, Boxed W w.heap.size 30 v ∧ W.ownsRow w.heap.size 37 2 v pre.length (rows p q pre) ∧ True) ∧ (Below w.heap.size w W ∧ W0.heap.size ≤ W.heap.size))
    (fun _ _ _ => False)
    (OwnFrom.and (Own.from (holdsRow_own w.heap.size w.heap.size 30 37 2 (fun pre : List Nat => pre.length) (fun pre => rows p q pre) (fun _ _ => True)) _) (OwnFrom.and (ownFrom_below (Nat.le_refl _) (by omega)) (fun s A B row hs hg _ => Nat.le_trans hs hg.size)))
    (fun _ _ _ _ _ hs _ _ => hs)
    ⟨⟨_, bB, World.ownsRow_nil _ _ _ _, trivial⟩, hB0, Nat.le_refl _⟩
    (fun x a' W => ∃ Bx, W0.heap.size ≤ Bx ∧ W.heap[Bx]? = some (.cells #[.int .i64 (p x), .int .i64 (q x)] 37 (0, 0)) ∧ a' = { tmps := #[.slice none 0 0, .func (.func 142) #[] #[.pointer (some ⟨Bs, po, none⟩)], .pointer (some ⟨w.heap.size, 0, none⟩), undef, .slice none 0 0, .pointer (some ⟨Bx, 0, none⟩), .func (.func 142) #[] #[.pointer (some ⟨Bs, po, none⟩)], .agg #[.int .i64 (p x), .int .i64 (q x)], undef, undef, undef, undef, undef], defers := [] })
    (fun x a' _ X Y row hs hg hr => by obtain ⟨Bx, h1, h2, h3⟩ := hs; exact ⟨Bx, h1, (grownBy_keeps_cells hg (fun r e => (hr r e).2) h2 rfl).trans h2, h3⟩)
    ?assign ?body ?done ?stop
  case assign =>
    rintro l pre x W K ⟨⟨v, iB, iR, _⟩, iW, iZ⟩ hK
    obtain ⟨X, hX⟩ : ∃ X, X = p x := ⟨_, rfl⟩
    obtain ⟨Y, hY⟩ : ∃ Y, Y = q x := ⟨_, rfl⟩
    rw [← hX, ← hY] at hK ⊢
    have hK' := Lib.hid hK
    have iB' := Lib.hid iB
    have iR' := Lib.hid iR
    clear hK hX hY iB iR
    gi_wp2
    exact hK'.out _ _ ((KeepsOthers.alloc _ _).from _) ((Below.refl _ W).alloc iW.size _) ⟨⟨v, iB'.out.alloc _, iR'.out.alloc _, trivial⟩, iW.alloc iW.size _, by rw [World.size_alloc]; omega⟩ ⟨W.heap.size, iZ, World.alloc_heap_new W _, rfl⟩
  case body =>
    rintro l pre x a' W hl ⟨r, hr⟩ ⟨⟨v, iB, iR, _⟩, iW, iZ⟩ ⟨Bx, hBx, bX, rfl⟩ hlt
    obtain ⟨X, hX⟩ : ∃ X, X = p x := ⟨_, rfl⟩
    obtain ⟨Y, hY⟩ : ∃ Y, Y = q x := ⟨_, rfl⟩
    rw [← hX, ← hY] at bX ⊢
    have q0 : W.cell? ⟨Bx, 0, none⟩ = some (.int .i64 X) := by simp [World.cell?, bX]
    have q1 : W.cell? ⟨Bx, 1, none⟩ = some (.int .i64 Y) := by simp [World.cell?, bX]
    have hv := iB.cell
    have hX' := Lib.hid hX
    have hY' := Lib.hid hY
    obtain ⟨i0, hi, hz0, hz1, hz2⟩ := info_parts win_info
    have hb1 : pre.length + 1 ≤ maxLen := by have := h100'.out; unfold maxLen; omega
    have hb2 : (pre.length + 1) * 16 ≤ 140737488355328 := by have := h100'.out; omega
    have hs1 : w.heap.size ≤ (W.alloc (Obj.cells #[.int .i64 X, .int .i64 Y] 37)).heap.size := by rw [World.size_alloc]; have := iW.size; omega
    have iB' := Lib.hid iB
    have iW' := Lib.hid iW
    have iR' := Lib.hid iR
    clear bX hX hY iB hr
    gi_wp2_with (gi_at_builtin; refine wpListIn_append_own _ rfl _ _ 30 rfl w.heap.size 37 i0 _ 2 16 und_list hi hz0 hz1 hz2 rfl (by omega) v pre.length (rows p q pre) rfl (iR'.out.alloc _) ⟨W.heap.size, 0, none⟩ 1 1 [.int .i64 X, .int .i64 Y] rfl rfl (cell_two_new _ _ _ _) (by simp [Value.oneCell']) hb1 hb2 hs1 ?_; intro v' w1 hown' hgrow _; obtain ⟨g', cap', rfl⟩ := ownsRow_succ hown'; obtain ⟨hv1, hv2, hr2, hk2, hb2⟩ := iB'.out.appended (by decide) iR'.out iW'.out.size (Nat.le_refl _) hown' hgrow; have hc1 := hv1.cell; have hf1 := hv1.frozen; have hv1' := Lib.hid hv1; have hv2' := Lib.hid hv2; have hr2' := Lib.hid hr2; have hk2' := Lib.hid hk2; have hb2' := Lib.hid hb2; clear hv1 hv2 hr2 hk2 hb2 hown' hgrow)
    have e : rows p q (pre ++ [x]) = rows p q pre ++ [.int .i64 X, .int .i64 Y] := by rw [hX'.out, hY'.out]; simp [rows]
    exact ⟨hk2'.out.from _, hb2'.out, ⟨_, hv2'.out, by rw [e, List.length_append]; exact hr2'.out, trivial⟩, iW'.out.trans hb2'.out, Nat.le_trans iZ hb2'.out.size⟩
  case done =>
    rintro D ys W hD rfl ⟨⟨v, iB, iR, _⟩, iW, iZ⟩ hK
    have hv := iB.cell
    have iR' := Lib.hid iR
    have iW' := Lib.hid iW
    clear iB iR iW
    gi_wp2
    refine ⟨by simp, .inl ⟨_, _, rfl, run_takeDeferred hK, ?_⟩⟩
    have hR := iR'.out
    rw [List.length_range] at hR
    exact ⟨_, results_tmp rfl _ _ _, v, rfl, ownsRow_putObj hR _ hK rfl, iW'.out.trans (belowK_b (w := w) (Nat.le_refl _) W D _ _ (by omega) hK rfl rfl)⟩
  case stop =>
    rintro D c pre W _ _ h _
    exact h.elim

set_option maxHeartbeats 1000000 in
theorem col_in (F : Fence) (n : Nat) (f0 : F.fn 140) (f1 : F.fn 159) (f2 : F.fn 142) (hro : F.round = none) (hn : 6 ≤ n) (Bs po : Nat) (sv : Value) (len : Nat) (p q : Nat → Int) (h100 : len ≤ 1099511627776) (w : World) (hBs : Bs < w.heap.size)
    (hc : w.cell? ⟨Bs, po, none⟩ = some sv) (hI : Wins w.heap.size w sv len p q) :
    CallsIn F n Try.prog 140 #[.func (.func 142) #[] #[.pointer (some ⟨Bs, po, none⟩)]] w fun e W' => ∃ v, e = .returned v ∧ W'.ownsRow w.heap.size 37 2 v len (rows p q (List.range len)) ∧ Below w.heap.size w W' := by
  refine callsIn_of_wp Try.func140 rfl f0 ?_ hro
  simp only [Try.ntmps140, List.size_toArray, List.length_cons, List.length_nil, Nat.reduceAdd, Nat.reduceSub, Array.replicate_succ, Array.replicate_zero, List.push_toArray, List.append_toArray, List.nil_append, List.cons_append]
  have h1 : 1 ≤ n := by omega
  have hA := Lib.hid (app_in F (n - 1) f1 f2 hro (by omega) Bs po sv len p q h100 w hBs hc hI)
  clear hBs hc hI h100
  gi_wp2_with (gi_at_call 159; refine hA.out.mono ?_; rintro e W' ⟨v, rfl, hr, hb⟩; have hr' := Lib.hid hr; have hb' := Lib.hid hb; clear hr hb)
  go_ret
  exact ⟨v, rfl, hr'.out, hb'.out⟩

theorem calls_1 (n : Nat) (Bs po : Nat) (sv : Value) (len : Nat) (p q : Nat → Int) (h100 : len ≤ 1099511627776) (w : World) (hBs : Bs < w.heap.size)
    (hc : w.cell? ⟨Bs, po, none⟩ = some sv) (hI : Wins w.heap.size w sv len p q) :
    Calls Try.prog 140 #[.func (.func 142) #[] #[.pointer (some ⟨Bs, po, none⟩)]] w fun e W' => ∃ v, e = .returned v ∧ W'.ownsRow w.heap.size 37 2 v len (rows p q (List.range len)) ∧ Below w.heap.size w W' :=
  callsIn_wide.1 (col_in Fence.wide 6 trivial trivial trivial rfl (by omega) Bs po sv len p q h100 w hBs hc hI)

open Classical in
noncomputable def colF (args : List AV) : Rs :=
  if h : ∃ l : List Window, l.length ≤ 1099511627776 ∧ args = [.fn (.func 142) [] [.ptr 1 [.sl 2 (List.map Window_av l)] 0 0]] then
    ⟨true, .fresh 2 (List.map Window_av (Classical.choose h)), [.any]⟩
  else Rs.bad

theorem colF_at (l : List Window) (h : l.length ≤ 1099511627776) : colF [.fn (.func 142) [] [.ptr 1 [.sl 2 (List.map Window_av l)] 0 0]] = ⟨true, .fresh 2 (List.map Window_av l), [.any]⟩ := by
  have hex : ∃ q : List Window, q.length ≤ 1099511627776 ∧ [AV.fn (.func 142) [] [.ptr 1 [.sl 2 (List.map Window_av l)] 0 0]] = [.fn (.func 142) [] [.ptr 1 [.sl 2 (List.map Window_av q)] 0 0]] := ⟨l, h, rfl⟩
  unfold colF
  rw [dif_pos hex]
  obtain ⟨_, h2⟩ := Classical.choose_spec hex
  generalize Classical.choose hex = q at h2 ⊢
  simp only [List.cons.injEq, AV.fn.injEq, AV.ptr.injEq, AV.sl.injEq, true_and, and_true] at h2
  rw [h2]

theorem colF_inv {args : List AV} (h : (colF args).ok = true) : ∃ l : List Window, l.length ≤ 1099511627776 ∧ args = [.fn (.func 142) [] [.ptr 1 [.sl 2 (List.map Window_av l)] 0 0]] := by
  unfold colF at h
  split at h
  · rename_i hex; exact hex
  · cases h

theorem wins_of {S : Nat → Prop} {w : World} {v : Value} {l : List Window} (h : VR S w v (.sl 2 (List.map Window_av l))) :
    Wins w.heap.size w v l.length (fun k => (l.getD k default).From) (fun k => (l.getD k default).To) := by
  cases h with
  | @sl a n cap sz els b off rd hn hcap hsz ha hc hw hr =>
    have hl : (List.map Window_av l).length = l.length := by simp
    refine ⟨a, cap, by rw [hn, hl], fun hp => ?_⟩
    obtain ⟨e, _⟩ := ha (by rw [hl]; exact hp)
    have hb := World.block_lt_of_cell? w ⟨b, off + (0 * 2 + 0), none⟩ (hw 0 0 (by rw [hl]; exact hp) (by omega))
    have hget : ∀ k, k < l.length → (List.map Window_av l).getD k .any = Window_av (l.getD k default) := fun k hk => by
      simp [List.getD_eq_getElem?_getD, hk]
    have one : ∀ k j, k < l.length → j < 2 → w.cell? ⟨b, off + (k * 2 + j), none⟩ = some (rd k j) ∧ VR S w (rd k j) ((Window_av (l.getD k default)).cells.getD j .any) := fun k j hk hj => by
      refine ⟨hw k j (by rw [hl]; exact hk) hj, ?_⟩
      have := hr k j (by rw [hl]; exact hk) hj
      rwa [hget k hk] at this
    have i : ∀ {u : Value} {k : IntKind} {z : Int}, VR S w u (.int k z) → u = .int k z := fun h => by cases h; rfl
    refine ⟨b, off, e, hb, ⟨fun k hk => ?_, fun k hk => ?_⟩⟩
    · obtain ⟨q, r⟩ := one k 0 hk (by omega); rw [← i r]; exact q
    · obtain ⟨q, r⟩ := one k 1 hk (by omega); rw [← i r]; exact q

theorem rows_get (p q : Nat → Int) : ∀ (l : List Nat) (i : Nat), i < l.length → (rows p q l)[i * 2]? = some (.int .i64 (p (l.getD i 0))) ∧ (rows p q l)[i * 2 + 1]? = some (.int .i64 (q (l.getD i 0)))
  | [], i, h => absurd h (by simp)
  | k :: l, 0, _ => ⟨rfl, rfl⟩
  | k :: l, i + 1, h => by
    have := rows_get p q l i (by simpa using h)
    have e : rows p q (k :: l) = .int .i64 (p k) :: .int .i64 (q k) :: rows p q l := rfl
    rw [e, show (i + 1) * 2 = i * 2 + 1 + 1 from by omega]
    simpa using this

theorem home_of {S : Nat → Prop} {w : World} {N : Nat} {l : List Window} {g cap : Nat} {cur : Array Value} {T : TypeId} (hh : w.heap[g]? = some (.cells cur T (0, 0))) (hle : l.length ≤ cap) (hs : cur.size = cap * 2)
    (ht : cur.toList.take (l.length * 2) = rows (fun k => (l.getD k default).From) (fun k => (l.getD k default).To) (List.range l.length)) : Home S w g cap 2 (List.map Window_av l) := by
  have hget : ∀ k, k < l.length → (List.map Window_av l).getD k .any = Window_av (l.getD k default) := fun k hk => by
    simp [List.getD_eq_getElem?_getD, hk]
  have hc : ∀ k, k < l.length * 2 → cur.getD k undef = ((rows (fun k => (l.getD k default).From) (fun k => (l.getD k default).To) (List.range l.length))[k]?).getD undef := fun k hk => by
    rw [← ht, List.getElem?_take_of_lt hk, Array.getElem?_toList, Array.getD_eq_getD_getElem?]
  refine ⟨by omega, by simpa using hle, fun i hi => ?_, fun _ => ⟨cur, T, (0, 0), hh, .inl rfl, hs, fun i j hi hj => ?_⟩⟩
  · rw [hget i (by simpa using hi)]; exact ⟨rfl, rfl⟩
  · have hi' : i < l.length := by simpa using hi
    rw [hget i hi', hc _ (by omega)]
    obtain ⟨a, b⟩ := rows_get (fun k => (l.getD k default).From) (fun k => (l.getD k default).To) (List.range l.length) i (by simpa using hi')
    have er : (List.range l.length).getD i 0 = i := by simp [List.getD_eq_getElem?_getD, hi']
    rw [er] at a b
    match j, hj with
    | 0, _ => rw [Nat.add_zero, a]; exact .int
    | 1, _ => rw [b]; exact .int

end Go.Proofs.Ytikaacjlnkfebaa.colw

namespace Go.Proofs.Ytikaacjlnkfebaa
open Go Go.RowKit Go.Proofs.Ytikaacjlnkfebaa.colw
set_option linter.unusedVariables false
set_option maxRecDepth 100000

noncomputable def c_hCollectWindow : Ctr := ⟨[.bor], false, colF⟩

theorem Fs_hCollectWindow {l y_ : List Window} (h : hCollect l = some y_) : c_hCollectWindow.F [.fn (.func 142) [] [.ptr 1 [.sl 2 (List.map Window_av l)] 0 0]] = ⟨true, .fresh 2 (List.map Window_av y_), [.any]⟩ := by
  unfold hCollect at h
  split at h
  · cases h; exact colF_at l ‹_›
  · cases h
theorem M_hCollectWindow : c_hCollectWindow.modes = [.bor] := rfl
theorem Fl_hCollectWindow : c_hCollectWindow.flat = false := rfl
attribute [go_sem] M_hCollectWindow Fl_hCollectWindow

theorem hcw_one {vargs : Array Value} (h : vargs.size = 1) : vargs = #[vargs.getD 0 undef] := by
  obtain ⟨l⟩ := vargs
  match l, h with
  | [a], _ => rfl

theorem hCollectWindow_is : Sound Try.prog 140 c_hCollectWindow := by
  refine ⟨fun e => Bool.noConfusion e, fun F g0 w args vargs hsh hsz hfr hok => ⟨fun e => Bool.noConfusion e, ?_⟩⟩
  obtain ⟨l, hlen, rfl⟩ := colF_inv hok
  have h0 := arg_VR hfr (i := 0) (by simp)
  rw [hcw_one hsz]
  generalize vargs.getD 0 undef = x at h0
  have h0 : SR (SetOf F g0 []) w g0 [] x (.fn (.func 142) [] [.ptr 1 [.sl 2 (List.map Window_av l)] 0 0]) := h0
  have he := Go.Proofs.enters_of (P := Try.prog) Try.func140 (by kernel_rfl) rfl
  unfold Invokes
  rw [he]
  show Calls _ _ _ _ _
  have hF : c_hCollectWindow.F [.fn (.func 142) [] [.ptr 1 [.sl 2 (List.map Window_av l)] 0 0]] = ⟨true, .fresh 2 (List.map Window_av l), [.any]⟩ := colF_at l hlen
  rw [hF]
  obtain ⟨Bs, po, sv, rfl, hcell, hw⟩ : ∃ Bs po sv, x = .func (.func 142) #[] #[.pointer (some ⟨Bs, po, none⟩)] ∧ w.cell? ⟨Bs, po, none⟩ = some sv ∧ Wins w.heap.size w sv l.length (fun k => (l.getD k default).From) (fun k => (l.getD k default).To) := by
    obtain ⟨v1, v2, rfl, h1n, h2n, _, h2⟩ := h0
    have e1 : v1 = #[] := Array.eq_empty_of_size_eq_zero h1n
    have e2 : v2 = #[v2.getD 0 undef] := hcw_one h2n
    have hp := h2 0 (by simp)
    rw [e1, e2]
    generalize v2.getD 0 undef = u at hp
    have hp : VR _ w u (.ptr 1 [.sl 2 (List.map Window_av l)] 0 0) := hp
    cases hp with
    | ptr b off rd hsz hi hs hc hw h =>
      refine ⟨b, off, rd 0 0, by simp, ?_, ?_⟩
      · simpa using hw 0 0 (by simp) (by omega)
      · exact wins_of (h 0 0 (by simp) (by omega))
  have hBs := World.block_lt_of_cell? w _ hcell
  refine (calls_1 6 Bs po sv l.length _ _ hlen w hBs hcell hw).mono ?_
  rintro e' w' ⟨v, rfl, hr, hB⟩
  have hs : Same (fun _ => False) w w' := ⟨hB.os, hB.tape, hB.output, hB.size, fun b hb _ => hB.block b hb⟩
  have only : ∀ k h, obGet k [(0, (⟨2, List.map Window_av l⟩ : Hm))] = some h → k = 0 ∧ h = ⟨2, List.map Window_av l⟩ := by
    intro k h hg
    simp only [obGet, cond_eq_if, beq_iff_eq] at hg
    split at hg
    · rename_i e; cases hg; exact ⟨e.symm, rfl⟩
    · cases hg
  have fin : ∀ rb cap, (0 < cap → w.heap.size ≤ rb) → Home (SetOf F ⟨fun _ => rb, fun _ => cap⟩ [(0, (⟨2, List.map Window_av l⟩ : Hm))]) w' rb cap 2 (List.map Window_av l) →
      (v = .slice (some ⟨rb, 0, none⟩) l.length cap ∨ (cap = 0 ∧ v = .slice none 0 0)) →
      Back F g0 [.fn (.func 142) [] [.ptr 1 [.sl 2 (List.map Window_av l)] 0 0]] [.bor] w v w' (.fresh 2 (List.map Window_av l)) [.any] ⟨fun _ => rb, fun _ => cap⟩ [(0, ⟨2, List.map Window_av l⟩)] (fun _ => 0) := by
    intro rb cap hlow hh hvv
    refine ⟨hs.mono fun _ _ c => c.elim, fun k h hg => ?_, fun k k' a b _ => ?_, fun k a hF' => ?_, fun k a => .inl (hlow a.2), ?_, fun i j hi hj _ => ?_, fun i j hi hj => ?_, fun j hj => ?_⟩
    · obtain ⟨rfl, rfl⟩ := only k h hg; exact hh
    · obtain ⟨⟨h, hg⟩, _⟩ := a; obtain ⟨⟨h', hg'⟩, _⟩ := b
      rw [(only k h hg).1, (only k' h' hg').1]
    · have h1 : rb < w.heap.size := hfr.fb _ hF'
      have h2 : w.heap.size ≤ rb := hlow a.2
      omega
    · exact ⟨by simp [obGet], by simpa using hvv⟩
    · rw [hi.1, hj.1]
    · match j with
      | 0 => cases hj
      | j + 1 => simp at hj
    · match j with
      | 0 => cases hj
      | j + 1 => simp at hj
  obtain ⟨_, hr⟩ := hr
  rcases hr with ⟨rfl, hn⟩ | ⟨g, cap, cur, rfl, hb, hh, hle, _, hsize, ht⟩
  · have : l = [] := List.length_eq_zero_iff.1 hn
    subst this
    exact ⟨_, ⟨fun _ => 0, fun _ => 0⟩, [(0, ⟨2, List.map Window_av []⟩)], fun _ => 0, rfl, fin 0 0 (fun h => absurd h (by omega)) ⟨by omega, by simp, fun i hi => absurd hi (by simp), fun h => absurd h (by omega)⟩ (.inr ⟨rfl, rfl⟩)⟩
  · exact ⟨_, ⟨fun _ => g, fun _ => cap⟩, [(0, ⟨2, List.map Window_av l⟩)], fun _ => 0, rfl, fin g cap (fun _ => hb) (home_of (N := 0) hh hle hsize ht) (.inl rfl)⟩

end Go.Proofs.Ytikaacjlnkfebaa
