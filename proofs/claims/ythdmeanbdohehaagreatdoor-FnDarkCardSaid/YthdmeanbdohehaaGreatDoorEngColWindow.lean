/- slices.Collect of slices.Values at lists of windows, at this translation: walked by hand. No condition. -/
import Derived.Test.YthdmeanbdohehaaGreatDoorDKT
import Derived.Test.YthdmeanbdohehaaGreatDoorRows
import Derived.RangeFuncNested
import Derived.RangeFuncBox
import Derived.RangeFuncBound
import Derived.RangeFuncCalls
import Derived.RangeFuncLeaves
import Derived.Shelf.Abstract
import Derived.Shelf.RegionOpen
import Derived.Maps.AppendAt
import Derived.OwnWalkIn
import Derived.TacticsInMore
import Derived.LoopNIn
import Derived.LoopIn
import Derived.WalkKit
import Derived.Lib.Hide
namespace Go.Proofs.YthdmeanbdohehaaGreatDoor.colw
open Go Go.RowKit Go.Shelf Go.Proofs.YthdmeanbdohehaaGreatDoor
set_option linter.unusedVariables false
set_option linter.unusedSimpArgs false
set_option maxRecDepth 100000
attribute [local go_sem] Oper.semAt_some
structure ZN (W : World) (b off n : Nat) (p q : Nat → Int) : Prop where
 c0 : ∀ k, k < n → W.cell? ⟨b, off + k * 2, none⟩ = some (.int .i64 (p k))
 c1 : ∀ k, k < n → W.cell? ⟨b, off + k * 2 + 1, none⟩ = some (.int .i64 (q k))
theorem ZN.below {n₀ : Nat} {A B : World} (h : Below n₀ A B) {b off n : Nat} {p q : Nat → Int} (hb : b < n₀) (he : ZN A b off n p q) : ZN B b off n p q :=
 ⟨fun k hk => (h.cell (p := ⟨b, _, none⟩) hb).trans (he.c0 k hk), fun k hk => (h.cell (p := ⟨b, _, none⟩) hb).trans (he.c1 k hk)⟩
set_option maxHeartbeats 2000000 in
theorem lc (F : Fence) (n : Nat) (hf : F.fn 86) (hro : F.round = none) (hn : 1 ≤ n) (l Bs po n₀ b off len cap : Nat) (p q : Nat → Int) (hlen : len ≤ 1099511627776) (hb : b < n₀) (J Jx : List Nat → World → Prop)
  (hJ : ∀ s W o, J s W → J s (W.alloc o))
  (hY : ∀ pre x W, J pre W → pre.length < len → YieldAt F (n - 1) Tryz.prog l #[.agg #[.int .i64 (p x), .int .i64 (q x)]] W fun e W' =>
   (e = .returned (.bool true) ∧ J (pre ++ [x]) W' ∧ Below n₀ W W') ∨ (e = .returned (.bool false) ∧ Jx (pre ++ [x]) W'))
  (W : World) (hn0 : n₀ ≤ W.heap.size) (hBs : W.cell? ⟨Bs, po, none⟩ = some (.slice (some ⟨b, off, none⟩) len cap)) (hc : ZN W b off len p q) (h0 : J [] W) :
  CallsIn F n Tryz.prog 86 #[.func (.yield l) #[] #[], .pointer (some ⟨Bs, po, none⟩)] W fun e W' => (∃ v, e = .returned v) ∧
   ((∃ ys, ys = List.range len ∧ J ys W') ∨ (∃ pre, (∃ k, k ≤ len ∧ pre = List.range k) ∧ Jx pre W')) := by
 refine callsIn_of_wp Tryz.func86 rfl hf ?_ hro
 simp only [Tryz.ntmps86, List.size_toArray, List.length_cons, List.length_nil, Nat.reduceAdd, Nat.reduceSub, Array.replicate_succ, Array.replicate_zero, List.push_toArray, List.append_toArray, List.nil_append, List.cons_append]
 gi_wp2
 gi_loopw [7] (fun i wr => ∃ k : Nat, k ≤ len ∧ i = .int .i64 k ∧ J (List.range k) wr ∧ Below n₀ W wr)
  (fun i _ => len - (intOf i).toNat)
 case atStart => exact ⟨0, Nat.zero_le _, rfl, h0, Below.refl _ _⟩
 case round =>
  obtain ⟨k, hk, rfl, hJs, hnx⟩ := hrel
  by_cases hlt : k < len
  ·have hcs := hc.below hnx hb
   have q0 := hcs.c0 k hlt
   have q1 := hcs.c1 k hlt
   have hyy := hY (List.range k) k
   obtain ⟨X, hX⟩ : ∃ X, X = p k := ⟨_, rfl⟩
   obtain ⟨Y, hYY⟩ : ∃ Y, Y = q k := ⟨_, rfl⟩
   rw [← hX] at q0 hyy
   rw [← hYY] at q1 hyy
   obtain ⟨fn, tmps, assign, body, hy, hR⟩ := hyy (wr.alloc (.cells #[.int .i64 X, .int .i64 Y] 46)) (hJ _ _ _ hJs) (by simpa using hlt)
   have hb1 := Lib.hid (hnx.alloc (Nat.le_trans hn0 hnx.size) (.cells #[.int .i64 X, .int .i64 Y] 46))
   clear hX hYY hcs hc hY hyy hJ
   gi_wp2
   refine hR.mono ?_
   rintro e W3 (⟨rfl, hJ3, hk3⟩ | ⟨rfl, hJx3⟩)
   ·gi_wp2
    go_roundw
    case rel => exact ⟨k + 1, by omega, by simp, by rw [List.range_succ]; exact hJ3, hb1.out.trans hk3⟩
    case measure => simp [intOf]; omega
   ·gi_wp2
    refine bodyPost_ret (results_none rfl _ _ _) rfl ?_
    exact ⟨⟨_, rfl⟩, .inr ⟨_, ⟨k + 1, by omega, by rw [List.range_succ]⟩, hJx3⟩⟩
  ·obtain rfl : k = len := by omega
   gi_wp2
   go_end0
   exact ⟨⟨_, rfl⟩, .inl ⟨_, rfl, hJs⟩⟩
set_option maxHeartbeats 1000000 in
theorem Xq (F : Fence) (n : Nat) (hf : F.fn 86) (hro : F.round = none) (l Bs po : Nat) (a : Option Addr) (cap : Nat) (J : List Nat → World → Prop) (W : World) (hBs : W.cell? ⟨Bs, po, none⟩ = some (.slice a 0 cap)) (h0 : J [] W) :
  CallsIn F n Tryz.prog 86 #[.func (.yield l) #[] #[], .pointer (some ⟨Bs, po, none⟩)] W fun e W' => (∃ v, e = .returned v) ∧ J [] W' := by
 refine callsIn_of_wp Tryz.func86 rfl hf ?_ hro
 simp only [Tryz.ntmps86, List.size_toArray, List.length_cons, List.length_nil, Nat.reduceAdd, Nat.reduceSub, Array.replicate_succ, Array.replicate_zero, List.push_toArray, List.append_toArray, List.nil_append, List.cons_append]
 gi_wp2
 gi_loopw [7] (fun i wr => i = .int .i64 0 ∧ J [] wr) (fun _ _ => 0)
 case atStart => exact ⟨rfl, h0⟩
 case round =>
  obtain ⟨rfl, hJs⟩ := hrel
  gi_wp2
  go_end0
  exact ⟨⟨_, rfl⟩, hJs⟩
def ey (n₀ : Nat) (W : World) (sv : Value) (n : Nat) (p q : Nat → Int) : Prop :=
 ∃ a cap, sv = .slice a n cap ∧ (0 < n → ∃ b off, a = some ⟨b, off, none⟩ ∧ b < n₀ ∧ ZN W b off n p q)
theorem Zc (F : Fence) (n : Nat) (hf : F.fn 86) (hro : F.round = none) (hn : 1 ≤ n) (Bs po : Nat) (sv : Value) (len : Nat) (p q : Nat → Int) (h100 : len ≤ 1099511627776) (w : World) (hBs : Bs < w.heap.size)
  (hc : w.cell? ⟨Bs, po, none⟩ = some sv) (hI : ey w.heap.size w sv len p q) :
  SeqStopsK F n Tryz.prog 86 #[.pointer (some ⟨Bs, po, none⟩)] (fun x : Nat => #[Value.agg #[.int .i64 (p x), .int .i64 (q x)]]) (Below w.heap.size) (fun ys => ys = List.range len)
   (fun pre => ∃ k, k ≤ len ∧ pre = List.range k) len w := fun l J Jx W hW hJ _ hY h0 => by
 have hc' := (hW.cell (p := ⟨Bs, po, none⟩) hBs).trans hc
 obtain ⟨a, cap, rfl, hp⟩ := hI
 rcases Nat.eq_zero_or_pos len with h | h
 ·rw [h] at hc'
  refine (Xq F n hf hro l Bs po a cap J W hc' h0).mono fun e W' ⟨he, hj⟩ => ⟨he, .inl ⟨[], by rw [h]; rfl, hj⟩⟩
 ·obtain ⟨b, off, rfl, hb, he⟩ := hp h
  exact lc F n hf hro hn l Bs po w.heap.size b off len cap p q h100 hb J Jx (fun s W o hs => hJ s W _ none hs (World.grownBy_alloc W o none) (fun r e => by cases e)) hY W hW.size hc' (he.below hW hb) h0
def Kj (p q : Nat → Int) (l : List Nat) : List Value := l.flatMap fun k => [.int .i64 (p k), .int .i64 (q k)]
theorem gD (p q : Nat → Int) : ∀ l : List Nat, (Kj p q l).length = l.length * 2
 | [] => rfl
 | k :: l => by
  have := gD p q l
  simp only [Kj, List.flatMap_cons, List.length_append, List.length_cons] at this ⊢
  rw [this]; simp only [List.length_nil]; omega
theorem fL : (Tryz.prog.info? 46).map (fun i => (i.zero, i.size, i.bytes)) = some (some (.agg #[.int .i64 0, .int .i64 0]), 2, 16) := by kernel_rfl
theorem fP : Tryz.prog.underlying 24 = some (.slice 46) := by kernel_rfl
theorem XV (w : World) (x y : Value) (t : TypeId) : ∀ j u, [x, y][j]? = some u → (w.alloc (.cells #[x, y] t)).cell? ((⟨w.heap.size, 0, none⟩ : Addr).add j) = some u := by
 intro j u hj
 have hb := World.alloc_heap_new w (.cells #[x, y] t)
 have hadd : (⟨w.heap.size, 0, none⟩ : Addr).add j = ⟨w.heap.size, j, none⟩ := by unfold Addr.add; split <;> simp_all
 rw [hadd, cell_of_row _ _ j #[x, y] t (0, 0) hb]
 simpa using hj
set_option maxHeartbeats 4000000 in
theorem sQ (F : Fence) (n : Nat) (f0 : F.fn 101) (f2 : F.fn 86) (hro : F.round = none) (hn : 5 ≤ n) (Bs po : Nat) (sv : Value) (len : Nat) (p q : Nat → Int) (h100 : len ≤ 1099511627776) (w : World) (hBs : Bs < w.heap.size)
  (hc : w.cell? ⟨Bs, po, none⟩ = some sv) (hI : ey w.heap.size w sv len p q) :
  CallsIn F n Tryz.prog 101 #[.slice none 0 0, .func (.func 86) #[] #[.pointer (some ⟨Bs, po, none⟩)]] w fun e W' => ∃ v, e = .returned v ∧ W'.ownsRow w.heap.size 46 2 v len (Kj p q (List.range len)) ∧ Below w.heap.size w W' := by
 have h1 : 1 ≤ n := by omega
 refine callsIn_of_wp_marks Tryz.func101 rfl f0 ?_ hro
 simp only [Tryz.ntmps101, List.size_toArray, List.length_cons, List.length_nil, Nat.reduceAdd, Nat.reduceSub, Array.replicate_succ, Array.replicate_zero, List.push_toArray, List.append_toArray, List.nil_append, List.cons_append]
 have hI' := Lib.hid hI
 have hc' := Lib.hid hc
 have hBs' := Lib.hid hBs
 have h100' := Lib.hid h100
 clear hI hc hBs h100
 gi_wp2
 have hB0 : Below w.heap.size w (w.alloc (Obj.cells #[Value.slice none 0 0] 24)) := (Below.refl _ w).alloc (Nat.le_refl _) _
 have bB : Boxed (w.alloc (Obj.cells #[Value.slice none 0 0] 24)) w.heap.size 24 (.slice none 0 0) := Boxed.new _ _ _
 have hsz : (w.alloc (Obj.cells #[Value.slice none 0 0] 24)).heap.size = w.heap.size + 1 := World.size_alloc _ _
 obtain ⟨W0, hW0⟩ : ∃ W0, w.alloc (Obj.cells #[Value.slice none 0 0] 24) = W0 := ⟨_, rfl⟩
 rw [hW0] at hB0 bB hsz ⊢
 clear hW0
 refine wpIn_rangeFunc_ownH hro h1 (gf := 86) (lb := #[.pointer (some ⟨Bs, po, none⟩)]) rfl f2 (enters_of Tryz.func86 (by kernel_rfl) rfl)
  (Zc F (n - 1) f2 hro (by omega) Bs po sv len p q h100'.out w hBs'.out hc'.out hI'.out) belowK_t (belowK_b (by omega)) hB0 (fun _ => rfl)
  (fun pre W => (∃ v, Boxed W w.heap.size 24 v ∧ W.ownsRow w.heap.size 46 2 v pre.length (Kj p q pre) ∧ True) ∧ (Below w.heap.size w W ∧ W0.heap.size ≤ W.heap.size))
  (fun _ _ _ => False)
  (OwnFrom.and (Own.from (holdsRow_own w.heap.size w.heap.size 24 46 2 (fun pre : List Nat => pre.length) (fun pre => Kj p q pre) (fun _ _ => True)) _) (OwnFrom.and (ownFrom_below (Nat.le_refl _) (by omega)) (fun s A B row hs hg _ => Nat.le_trans hs hg.size)))
  (fun _ _ _ _ _ hs _ _ => hs)
  ⟨⟨_, bB, World.ownsRow_nil _ _ _ _, trivial⟩, hB0, Nat.le_refl _⟩
  (fun x a' W => ∃ Bx, W0.heap.size ≤ Bx ∧ W.heap[Bx]? = some (.cells #[.int .i64 (p x), .int .i64 (q x)] 46 (0, 0)) ∧ a' = { tmps := #[.slice none 0 0, .func (.func 86) #[] #[.pointer (some ⟨Bs, po, none⟩)], .pointer (some ⟨w.heap.size, 0, none⟩), undef, .slice none 0 0, .pointer (some ⟨Bx, 0, none⟩), .func (.func 86) #[] #[.pointer (some ⟨Bs, po, none⟩)], .agg #[.int .i64 (p x), .int .i64 (q x)], undef, undef, undef, undef, undef], defers := [] })
  (fun x a' _ X Y row hs hg hr => by obtain ⟨Bx, h1, h2, h3⟩ := hs; exact ⟨Bx, h1, (grownBy_keeps_cells hg (fun r e => (hr r e).2) h2 rfl).trans h2, h3⟩)
  ?assign ?body ?done ?stop
 case assign =>
  rintro l pre x W K ⟨⟨v, iB, iR, _⟩, iW, iZ⟩ hK
  obtain ⟨X, hX⟩ : ∃ X, X = p x := ⟨_, rfl⟩
  obtain ⟨Y, hY⟩ : ∃ Y, Y = q x := ⟨_, rfl⟩
  rw [← hX, ← hY] at hK ⊢
  have hK' := Lib.hid hK
  have iB' := Lib.hid iB
  have iR' := Lib.hid iR
  clear hK hX hY iB iR
  gi_wp2
  exact hK'.out _ _ ((KeepsOthers.alloc _ _).from _) ((Below.refl _ W).alloc iW.size _) ⟨⟨v, iB'.out.alloc _, iR'.out.alloc _, trivial⟩, iW.alloc iW.size _, by rw [World.size_alloc]; omega⟩ ⟨W.heap.size, iZ, World.alloc_heap_new W _, rfl⟩
 case body =>
  rintro l pre x a' W hl ⟨r, hr⟩ ⟨⟨v, iB, iR, _⟩, iW, iZ⟩ ⟨Bx, hBx, bX, rfl⟩ hlt
  obtain ⟨X, hX⟩ : ∃ X, X = p x := ⟨_, rfl⟩
  obtain ⟨Y, hY⟩ : ∃ Y, Y = q x := ⟨_, rfl⟩
  rw [← hX, ← hY] at bX ⊢
  have q0 : W.cell? ⟨Bx, 0, none⟩ = some (.int .i64 X) := by simp [World.cell?, bX]
  have q1 : W.cell? ⟨Bx, 1, none⟩ = some (.int .i64 Y) := by simp [World.cell?, bX]
  have hv := iB.cell
  have hX' := Lib.hid hX
  have hY' := Lib.hid hY
  obtain ⟨i0, hi, hz0, hz1, hz2⟩ := info_parts fL
  have hb1 : pre.length + 1 ≤ maxLen := by have := h100'.out; unfold maxLen; omega
  have hb2 : (pre.length + 1) * 16 ≤ 140737488355328 := by have := h100'.out; omega
  have hs1 : w.heap.size ≤ (W.alloc (Obj.cells #[.int .i64 X, .int .i64 Y] 46)).heap.size := by rw [World.size_alloc]; have := iW.size; omega
  have iB' := Lib.hid iB
  have iW' := Lib.hid iW
  have iR' := Lib.hid iR
  clear bX hX hY iB hr
  gi_wp2_with (gi_at_builtin; refine wpListIn_append_own _ rfl _ _ 24 rfl w.heap.size 46 i0 _ 2 16 fP hi hz0 hz1 hz2 rfl (by omega) v pre.length (Kj p q pre) rfl (iR'.out.alloc _) ⟨W.heap.size, 0, none⟩ 1 1 [.int .i64 X, .int .i64 Y] rfl rfl (XV _ _ _ _) (by simp [Value.oneCell']) hb1 hb2 hs1 ?_; intro v' w1 hown' hgrow _; obtain ⟨g', cap', rfl⟩ := ownsRow_succ hown'; obtain ⟨hv1, hv2, hr2, hk2, hb2⟩ := iB'.out.appended (by decide) iR'.out iW'.out.size (Nat.le_refl _) hown' hgrow; have hc1 := hv1.cell; have hf1 := hv1.frozen; have hv1' := Lib.hid hv1; have hv2' := Lib.hid hv2; have hr2' := Lib.hid hr2; have hk2' := Lib.hid hk2; have hb2' := Lib.hid hb2; clear hv1 hv2 hr2 hk2 hb2 hown' hgrow)
  have e : Kj p q (pre ++ [x]) = Kj p q pre ++ [.int .i64 X, .int .i64 Y] := by rw [hX'.out, hY'.out]; simp [Kj]
  exact ⟨hk2'.out.from _, hb2'.out, ⟨_, hv2'.out, by rw [e, List.length_append]; exact hr2'.out, trivial⟩, iW'.out.trans hb2'.out, Nat.le_trans iZ hb2'.out.size⟩
 case done =>
  rintro D ys W hD rfl ⟨⟨v, iB, iR, _⟩, iW, iZ⟩ hK
  have hv := iB.cell
  have iR' := Lib.hid iR
  have iW' := Lib.hid iW
  clear iB iR iW
  gi_wp2
  refine ⟨by simp, .inl ⟨_, _, rfl, run_takeDeferred hK, ?_⟩⟩
  have hR := iR'.out
  rw [List.length_range] at hR
  exact ⟨_, results_tmp rfl _ _ _, v, rfl, ownsRow_putObj hR _ hK rfl, iW'.out.trans (belowK_b (w := w) (Nat.le_refl _) W D _ _ (by omega) hK rfl rfl)⟩
 case stop =>
  rintro D c pre W _ _ h _
  exact h.elim
set_option maxHeartbeats 1000000 in
theorem sB (F : Fence) (n : Nat) (f0 : F.fn 84) (f1 : F.fn 101) (f2 : F.fn 86) (hro : F.round = none) (hn : 6 ≤ n) (Bs po : Nat) (sv : Value) (len : Nat) (p q : Nat → Int) (h100 : len ≤ 1099511627776) (w : World) (hBs : Bs < w.heap.size)
  (hc : w.cell? ⟨Bs, po, none⟩ = some sv) (hI : ey w.heap.size w sv len p q) :
  CallsIn F n Tryz.prog 84 #[.func (.func 86) #[] #[.pointer (some ⟨Bs, po, none⟩)]] w fun e W' => ∃ v, e = .returned v ∧ W'.ownsRow w.heap.size 46 2 v len (Kj p q (List.range len)) ∧ Below w.heap.size w W' := by
 refine callsIn_of_wp Tryz.func84 rfl f0 ?_ hro
 simp only [Tryz.ntmps84, List.size_toArray, List.length_cons, List.length_nil, Nat.reduceAdd, Nat.reduceSub, Array.replicate_succ, Array.replicate_zero, List.push_toArray, List.append_toArray, List.nil_append, List.cons_append]
 have h1 : 1 ≤ n := by omega
 have hA := Lib.hid (sQ F (n - 1) f1 f2 hro (by omega) Bs po sv len p q h100 w hBs hc hI)
 clear hBs hc hI h100
 gi_wp2_with (gi_at_call 101; refine hA.out.mono ?_; rintro e W' ⟨v, rfl, hr, hb⟩; have hr' := Lib.hid hr; have hb' := Lib.hid hb; clear hr hb)
 go_ret
 exact ⟨v, rfl, hr'.out, hb'.out⟩
theorem ng (n : Nat) (Bs po : Nat) (sv : Value) (len : Nat) (p q : Nat → Int) (h100 : len ≤ 1099511627776) (w : World) (hBs : Bs < w.heap.size)
  (hc : w.cell? ⟨Bs, po, none⟩ = some sv) (hI : ey w.heap.size w sv len p q) :
  Calls Tryz.prog 84 #[.func (.func 86) #[] #[.pointer (some ⟨Bs, po, none⟩)]] w fun e W' => ∃ v, e = .returned v ∧ W'.ownsRow w.heap.size 46 2 v len (Kj p q (List.range len)) ∧ Below w.heap.size w W' :=
 callsIn_wide.1 (sB Fence.wide 6 trivial trivial trivial rfl (by omega) Bs po sv len p q h100 w hBs hc hI)
open Classical in
noncomputable def kg (args : List AV) : Rs :=
 if h : ∃ l : List AA, l.length ≤ 1099511627776 ∧ args = [.fn (.func 86) [] [.ptr 1 [.sl 2 (List.map AB l)] 0 0]] then
  ⟨true, .fresh 2 (List.map AB (Classical.choose h)), [.any]⟩
 else Rs.bad
theorem bp (l : List AA) (h : l.length ≤ 1099511627776) : kg [.fn (.func 86) [] [.ptr 1 [.sl 2 (List.map AB l)] 0 0]] = ⟨true, .fresh 2 (List.map AB l), [.any]⟩ := by
 have hex : ∃ q : List AA, q.length ≤ 1099511627776 ∧ [AV.fn (.func 86) [] [.ptr 1 [.sl 2 (List.map AB l)] 0 0]] = [.fn (.func 86) [] [.ptr 1 [.sl 2 (List.map AB q)] 0 0]] := ⟨l, h, rfl⟩
 unfold kg
 rw [dif_pos hex]
 obtain ⟨_, h2⟩ := Classical.choose_spec hex
 generalize Classical.choose hex = q at h2 ⊢
 simp only [List.cons.injEq, AV.fn.injEq, AV.ptr.injEq, AV.sl.injEq, true_and, and_true] at h2
 rw [h2]
theorem kf {args : List AV} (h : (kg args).ok = true) : ∃ l : List AA, l.length ≤ 1099511627776 ∧ args = [.fn (.func 86) [] [.ptr 1 [.sl 2 (List.map AB l)] 0 0]] := by
 unfold kg at h
 split at h
 ·rename_i hex; exact hex
 ·cases h
theorem lY {S : Nat → Prop} {w : World} {v : Value} {l : List AA} (h : VR S w v (.sl 2 (List.map AB l))) :
  ey w.heap.size w v l.length (fun k => (l.getD k default).From) (fun k => (l.getD k default).To) := by
 cases h with
 | @sl a n cap sz els b off rd hn hcap hsz ha hc hw hr =>
  have hl : (List.map AB l).length = l.length := by simp
  refine ⟨a, cap, by rw [hn, hl], fun hp => ?_⟩
  obtain ⟨e, _⟩ := ha (by rw [hl]; exact hp)
  have hb := World.block_lt_of_cell? w ⟨b, off + (0 * 2 + 0), none⟩ (hw 0 0 (by rw [hl]; exact hp) (by omega))
  have hget : ∀ k, k < l.length → (List.map AB l).getD k .any = AB (l.getD k default) := fun k hk => by
   simp [List.getD_eq_getElem?_getD, hk]
  have one : ∀ k j, k < l.length → j < 2 → w.cell? ⟨b, off + (k * 2 + j), none⟩ = some (rd k j) ∧ VR S w (rd k j) ((AB (l.getD k default)).cells.getD j .any) := fun k j hk hj => by
   refine ⟨hw k j (by rw [hl]; exact hk) hj, ?_⟩
   have := hr k j (by rw [hl]; exact hk) hj
   rwa [hget k hk] at this
  have i : ∀ {u : Value} {k : IntKind} {z : Int}, VR S w u (.int k z) → u = .int k z := fun h => by cases h; rfl
  refine ⟨b, off, e, hb, ⟨fun k hk => ?_, fun k hk => ?_⟩⟩
  ·obtain ⟨q, r⟩ := one k 0 hk (by omega); rw [← i r]; exact q
  ·obtain ⟨q, r⟩ := one k 1 hk (by omega); rw [← i r]; exact q
theorem YC (p q : Nat → Int) : ∀ (l : List Nat) (i : Nat), i < l.length → (Kj p q l)[i * 2]? = some (.int .i64 (p (l.getD i 0))) ∧ (Kj p q l)[i * 2 + 1]? = some (.int .i64 (q (l.getD i 0)))
 | [], i, h => absurd h (by simp)
 | k :: l, 0, _ => ⟨rfl, rfl⟩
 | k :: l, i + 1, h => by
  have := YC p q l i (by simpa using h)
  have e : Kj p q (k :: l) = .int .i64 (p k) :: .int .i64 (q k) :: Kj p q l := rfl
  rw [e, show (i + 1) * 2 = i * 2 + 1 + 1 from by omega]
  simpa using this
theorem nP {S : Nat → Prop} {w : World} {N : Nat} {l : List AA} {g cap : Nat} {cur : Array Value} {T : TypeId} (hh : w.heap[g]? = some (.cells cur T (0, 0))) (hle : l.length ≤ cap) (hs : cur.size = cap * 2)
  (ht : cur.toList.take (l.length * 2) = Kj (fun k => (l.getD k default).From) (fun k => (l.getD k default).To) (List.range l.length)) : Ft S w g cap 2 (List.map AB l) := by
 have hget : ∀ k, k < l.length → (List.map AB l).getD k .any = AB (l.getD k default) := fun k hk => by
  simp [List.getD_eq_getElem?_getD, hk]
 have hc : ∀ k, k < l.length * 2 → cur.getD k undef = ((Kj (fun k => (l.getD k default).From) (fun k => (l.getD k default).To) (List.range l.length))[k]?).getD undef := fun k hk => by
  rw [← ht, List.getElem?_take_of_lt hk, Array.getElem?_toList, Array.getD_eq_getD_getElem?]
 refine ⟨by omega, by simpa using hle, fun i hi => ?_, fun _ => ⟨cur, T, (0, 0), hh, .inl rfl, hs, fun i j hi hj => ?_⟩⟩
 ·rw [hget i (by simpa using hi)]; exact ⟨rfl, rfl⟩
 ·have hi' : i < l.length := by simpa using hi
  rw [hget i hi', hc _ (by omega)]
  obtain ⟨a, b⟩ := YC (fun k => (l.getD k default).From) (fun k => (l.getD k default).To) (List.range l.length) i (by simpa using hi')
  have er : (List.range l.length).getD i 0 = i := by simp [List.getD_eq_getElem?_getD, hi']
  rw [er] at a b
  match j, hj with
  | 0, _ => rw [Nat.add_zero, a]; exact .int
  | 1, _ => rw [b]; exact .int
end Go.Proofs.YthdmeanbdohehaaGreatDoor.colw
namespace Go.Proofs.YthdmeanbdohehaaGreatDoor
open Go Go.RowKit Go.Proofs.YthdmeanbdohehaaGreatDoor.colw
set_option linter.unusedVariables false
set_option maxRecDepth 100000
noncomputable def Cq : Bf := ⟨[.bor], false, kg⟩
theorem Oj {l y_ : List AA} (h : OP l = some y_) : Cq.F [.fn (.func 86) [] [.ptr 1 [.sl 2 (List.map AB l)] 0 0]] = ⟨true, .fresh 2 (List.map AB y_), [.any]⟩ := by
 unfold OP at h
 split at h
 ·cases h; exact bp l ‹_›
 ·cases h
theorem Pn : Cq.modes = [.bor] := rfl
theorem Ol : Cq.flat = false := rfl
attribute [go_sem] Pn Ol
theorem bZ {vargs : Array Value} (h : vargs.size = 1) : vargs = #[vargs.getD 0 undef] := by
 obtain ⟨l⟩ := vargs
 match l, h with
 | [a], _ => rfl
theorem OO : Ad Tryz.prog 84 Cq := by
 refine ⟨fun e => Bool.noConfusion e, fun F g0 w args vargs hsh hsz hfr hok => ⟨fun e => Bool.noConfusion e, ?_⟩⟩
 obtain ⟨l, hlen, rfl⟩ := kf hok
 have h0 := HE hfr (i := 0) (by simp)
 rw [bZ hsz]
 generalize vargs.getD 0 undef = x at h0
 have h0 : SR (AW F g0 []) w g0 [] x (.fn (.func 86) [] [.ptr 1 [.sl 2 (List.map AB l)] 0 0]) := h0
 have he := Go.Proofs.enters_of (P := Tryz.prog) Tryz.func84 (by kernel_rfl) rfl
 unfold DM
 rw [he]
 show Calls _ _ _ _ _
 have hF : Cq.F [.fn (.func 86) [] [.ptr 1 [.sl 2 (List.map AB l)] 0 0]] = ⟨true, .fresh 2 (List.map AB l), [.any]⟩ := bp l hlen
 rw [hF]
 obtain ⟨Bs, po, sv, rfl, hcell, hw⟩ : ∃ Bs po sv, x = .func (.func 86) #[] #[.pointer (some ⟨Bs, po, none⟩)] ∧ w.cell? ⟨Bs, po, none⟩ = some sv ∧ ey w.heap.size w sv l.length (fun k => (l.getD k default).From) (fun k => (l.getD k default).To) := by
  obtain ⟨v1, v2, rfl, h1n, h2n, _, h2⟩ := h0
  have e1 : v1 = #[] := Array.eq_empty_of_size_eq_zero h1n
  have e2 : v2 = #[v2.getD 0 undef] := bZ h2n
  have hp := h2 0 (by simp)
  rw [e1, e2]
  generalize v2.getD 0 undef = u at hp
  have hp : VR _ w u (.ptr 1 [.sl 2 (List.map AB l)] 0 0) := hp
  cases hp with
  | ptr b off rd hsz hi hs hc hw h =>
   refine ⟨b, off, rd 0 0, by simp, ?_, ?_⟩
   ·simpa using hw 0 0 (by simp) (by omega)
   ·exact lY (h 0 0 (by simp) (by omega))
 have hBs := World.block_lt_of_cell? w _ hcell
 refine (ng 6 Bs po sv l.length _ _ hlen w hBs hcell hw).mono ?_
 rintro e' w' ⟨v, rfl, hr, hB⟩
 have hs : Aj (fun _ => False) w w' := ⟨hB.os, hB.tape, hB.output, hB.size, fun b hb _ => hB.block b hb⟩
 have only : ∀ k h, AL k [(0, (⟨2, List.map AB l⟩ : Hm))] = some h → k = 0 ∧ h = ⟨2, List.map AB l⟩ := by
  intro k h hg
  simp only [AL, AM, beq_iff_eq] at hg
  split at hg
  ·rename_i e; cases hg; exact ⟨e.symm, rfl⟩
  ·cases hg
 have fin : ∀ rb cap, (0 < cap → w.heap.size ≤ rb) → Ft (AW F ⟨fun _ => rb, fun _ => cap⟩ [(0, (⟨2, List.map AB l⟩ : Hm))]) w' rb cap 2 (List.map AB l) →
   (v = .slice (some ⟨rb, 0, none⟩) l.length cap ∨ (cap = 0 ∧ v = .slice none 0 0)) →
   ZW F g0 [.fn (.func 86) [] [.ptr 1 [.sl 2 (List.map AB l)] 0 0]] [.bor] w v w' (.fresh 2 (List.map AB l)) [.any] ⟨fun _ => rb, fun _ => cap⟩ [(0, ⟨2, List.map AB l⟩)] (fun _ => 0) := by
  intro rb cap hlow hh hvv
  refine ⟨hs.mono fun _ _ c => c.elim, fun k h hg => ?_, fun k k' a b _ => ?_, fun k a hF' => ?_, fun k a => .inl (hlow a.2), ?_, fun i j hi hj _ => ?_, fun i j hi hj => ?_, fun j hj => ?_⟩
  ·obtain ⟨rfl, rfl⟩ := only k h hg; exact hh
  ·obtain ⟨⟨h, hg⟩, _⟩ := a; obtain ⟨⟨h', hg'⟩, _⟩ := b
   rw [(only k h hg).1, (only k' h' hg').1]
  ·have h1 : rb < w.heap.size := hfr.fb _ hF'
   have h2 : w.heap.size ≤ rb := hlow a.2
   omega
  ·exact ⟨by simp [AL], by simpa using hvv⟩
  ·rw [hi.1, hj.1]
  ·match j with
   | 0 => cases hj
   | j + 1 => simp at hj
  ·match j with
   | 0 => cases hj
   | j + 1 => simp at hj
 obtain ⟨_, hr⟩ := hr
 rcases hr with ⟨rfl, hn⟩ | ⟨g, cap, cur, rfl, hb, hh, hle, _, hsize, ht⟩
 ·have : l = [] := List.length_eq_zero_iff.1 hn
  subst this
  exact ⟨_, ⟨fun _ => 0, fun _ => 0⟩, [(0, ⟨2, List.map AB []⟩)], fun _ => 0, rfl, fin 0 0 (fun h => absurd h (by omega)) ⟨by omega, by simp, fun i hi => absurd hi (by simp), fun h => absurd h (by omega)⟩ (.inr ⟨rfl, rfl⟩)⟩
 ·exact ⟨_, ⟨fun _ => g, fun _ => cap⟩, [(0, ⟨2, List.map AB l⟩)], fun _ => 0, rfl, fin g cap (fun _ => hb) (nP (N := 0) hh hle hsize ht) (.inl rfl)⟩
end Go.Proofs.YthdmeanbdohehaaGreatDoor
