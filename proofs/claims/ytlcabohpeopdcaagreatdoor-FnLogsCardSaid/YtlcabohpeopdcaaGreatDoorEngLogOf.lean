/- impl.LogOf at this translation, walked by hand: the checks and the lines by contract, the builder by the library's. No condition. -/
import Derived.Test.YtlcabohpeopdcaaGreatDoorLGC
import Derived.Test.YtlcabohpeopdcaaGreatDoorEngBld
import Derived.Deep.QuietTactic
import Derived.BigQuiet
import Derived.LoopTactic
import Derived.WalkKit
import Derived.Lib.Hide
namespace Go.Proofs.YtlcabohpeopdcaaGreatDoor.logof
open Go Go.RowKit Go.Proofs.YtlcabohpeopdcaaGreatDoor
set_option linter.unusedVariables false
set_option linter.unusedSimpArgs false
set_option maxRecDepth 100000

def entV (e : Entry) : Value := .agg #[.int .i64 e.Day, .string ⟨e.What.toArray⟩, .int .i64 e.Value]

/-- The entries lie in a row of block b. -/
structure EntAt (W : World) (b off : Nat) (l : List Entry) : Prop where
  c0 : ∀ k, k < l.length → W.cell? ⟨b, off + k * 3, none⟩ = some (.int .i64 (l.getD k default).Day)
  c1 : ∀ k, k < l.length → W.cell? ⟨b, off + k * 3 + 1, none⟩ = some (.string ⟨(l.getD k default).What.toArray⟩)
  c2 : ∀ k, k < l.length → W.cell? ⟨b, off + k * 3 + 2, none⟩ = some (.int .i64 (l.getD k default).Value)

theorem EntAt.below {n₀ : Nat} {A B : World} (h : Below n₀ A B) {b off : Nat} {l : List Entry} (hb : b < n₀) (he : EntAt A b off l) : EntAt B b off l :=
  ⟨fun k hk => (h.cell (p := ⟨b, _, none⟩) hb).trans (he.c0 k hk), fun k hk => (h.cell (p := ⟨b, _, none⟩) hb).trans (he.c1 k hk), fun k hk => (h.cell (p := ⟨b, _, none⟩) hb).trans (he.c2 k hk)⟩

theorem entV_VR {S : Nat → Prop} {w : World} (e : Entry) : VR S w (entV e) (Entry_av e) := by
  refine .agg rfl (fun j hj => ?_) (fun j hj => ?_) <;> (have hj' : j < 3 := by simpa using hj)
  · match j, hj' with
    | 0, _ => rfl
    | 1, _ => rfl
    | 2, _ => rfl
  · match j, hj' with
    | 0, _ => exact .int
    | 1, _ => exact .str
    | 2, _ => exact .int

theorem ents_of {v : Value} {w : World} {l : List Entry} (hv : VR (fun _ => False) w v (.sl 3 (List.map Entry_av l))) :
    ∃ a cap, v = .slice a l.length cap ∧ (0 < l.length → ∃ b off, a = some ⟨b, off, none⟩ ∧ b < w.heap.size ∧ EntAt w b off l) := by
  cases hv with
  | @sl a n cap _ _ b off rd hn hcap hsz1 ha hc hw hr =>
    have hn' : n = l.length := by simpa using hn
    subst hn'
    refine ⟨a, cap, rfl, fun hp => ?_⟩
    obtain ⟨rfl, _⟩ := ha (by simpa using hp)
    have one : ∀ i, i < l.length → (List.map Entry_av l).getD i .any = Entry_av (l.getD i default) := fun i hi => by
      rw [List.getD_eq_getElem?_getD, List.getElem?_map, List.getD_eq_getElem?_getD, List.getElem?_eq_getElem hi]; rfl
    have cell : ∀ i j, i < l.length → j < 3 → ∃ u, w.cell? ⟨b, off + (i * 3 + j), none⟩ = some u ∧ VR (fun _ => False) w u ((Entry_av (l.getD i default)).cells.getD j .any) := fun i j hi hj => by
      have h2 := hr i j (by simpa using hi) hj
      rw [one i hi] at h2
      exact ⟨_, hw i j (by simpa using hi) hj, h2⟩
    refine ⟨b, off, rfl, ?_, ⟨fun k hk => ?_, fun k hk => ?_, fun k hk => ?_⟩⟩
    · obtain ⟨u, hu, _⟩ := cell 0 0 hp (by omega)
      exact World.block_lt_of_cell? w _ hu
    · obtain ⟨u, hu, hx⟩ := cell k 0 hk (by omega)
      have hx : VR _ w u (.int .i64 (l.getD k default).Day) := hx
      cases hx
      rw [Nat.add_zero] at hu
      exact hu
    · obtain ⟨u, hu, hx⟩ := cell k 1 hk (by omega)
      have hx : VR _ w u (.str (l.getD k default).What) := hx
      cases hx
      rw [← Nat.add_assoc] at hu
      exact hu
    · obtain ⟨u, hu, hx⟩ := cell k 2 hk (by omega)
      have hx : VR _ w u (.int .i64 (l.getD k default).Value) := hx
      cases hx
      rw [← Nat.add_assoc] at hu
      exact hu

def LogEnd (r : List UInt8 × Int) (N : Nat) (w : World) (e : Ending) (w' : World) : Prop := e = .returned (.tuple #[.string ⟨r.1.toArray⟩, .int .i64 r.2]) ∧ Below N w w'

theorem logof_full (a : Option Addr) (len cap : Nat) (w : World)
    (hCF : Calls Tryz.prog 15 #[.slice a len cap, .func (.func 16) #[] #[]] w fun e w' => e = .returned (.bool true) ∧ Below w.heap.size w w') :
    Calls Tryz.prog 6 #[.slice a len cap] w (LogEnd ([], 7) w.heap.size w) := by
  go_enter Tryz.func6, Tryz.ntmps6
  go_wp2_with (go_at_call 15; refine hCF.mono ?_; rintro e w1 ⟨rfl, hb1⟩)
  go_ret2
  exact ⟨rfl, hb1⟩

/-- Ahead of entry k the days do not fall. -/
def upTo (l : List Entry) (k : Nat) : Prop := ∀ j, j + 1 < k → (decide ((l.getD (j + 1) default).Day < (l.getD j default).Day)) = false

theorem upTo_step {l : List Entry} {k : Nat} (hk : 1 ≤ k) (h : upTo l k) (hd : decide ((l.getD k default).Day < (l.getD (k - 1) default).Day) = false) : upTo l (k + 1) := by
  intro j hj
  rcases Nat.lt_or_ge (j + 1) k with c | c
  · exact h j c
  · obtain rfl : j = k - 1 := by omega
    rw [Nat.sub_add_cancel hk]; exact hd
theorem upTo_le {l : List Entry} {k m : Nat} (h : upTo l k) (hm : m ≤ k) : upTo l m := fun j hj => h j (by omega)
theorem below_drewN {n₀ nq : Nat} {A B : World} (h : Below n₀ A B) : Below n₀ A (B.drewN nq) := by
  induction nq with
  | zero => exact h
  | succ n ih => exact ih.drew
theorem days_yes {l : List Entry} {k : Nat} (h1 : 1 ≤ k) (h2 : k < l.length) (h : decide ((l.getD k default).Day < (l.getD (k - 1) default).Day) = true) : impl_LogOf_d l = true := by
  unfold impl_LogOf_d
  rw [List.any_eq_true]
  refine ⟨k - 1, List.mem_range.2 (by omega), ?_⟩
  rw [Nat.sub_add_cancel h1]; exact h
theorem days_no {l : List Entry} (h : upTo l l.length) : impl_LogOf_d l = false := by
  unfold impl_LogOf_d
  rw [List.any_eq_false]
  intro j hj
  have := List.mem_range.1 hj
  rw [h j (by omega)]; exact Bool.false_ne_true


set_option maxHeartbeats 4000000 in
theorem logof_days (b off cap len : Nat) (l : List Entry) (hlen : len = l.length) (h63 : len ≤ 1099511627776) (w : World) (hb : b < w.heap.size) (he : EntAt w b off l) (hd : impl_LogOf_d l = true)
    (hCF : Calls Tryz.prog 15 #[.slice (some ⟨b, off, none⟩) len cap, .func (.func 16) #[] #[]] w fun e w' => e = .returned (.bool false) ∧ Below w.heap.size w w') :
    Calls Tryz.prog 6 #[.slice (some ⟨b, off, none⟩) len cap] w (LogEnd ([], 6) w.heap.size w) := by
  have HL := Lib.hid hlen
  have HE := Lib.hid he
  have HD := Lib.hid hd
  clear hlen he hd
  go_enter Tryz.func6, Tryz.ntmps6
  go_wp2_with (go_at_call 15; refine hCF.mono ?_; rintro e w1 ⟨rfl, hb1⟩)
  go_loopw [4] (fun i wr => ∃ k : Nat, 1 ≤ k ∧ (k ≤ len ∨ k = 1) ∧ i = .int .i64 k ∧ Below w.heap.size w wr ∧ Hid (upTo l k)) (fun i _ => len - (intOf i).toNat)
  case atStart => exact ⟨1, Nat.le_refl _, .inr rfl, rfl, hb1, Lib.hid fun j hj => absurd hj (by omega)⟩
  case round =>
    obtain ⟨k, hk1, hk2, rfl, hbr, hup⟩ := hrel
    have hx : k < len → EntAt wr b off l := fun _ => HE.out.below hbr hb
    by_cases hlt : k < len
    · have hE := hx hlt
      have q0 := hE.c0 k (by have := HL.out; omega)
      have q1 := hE.c0 (k - 1) (by have := HL.out; omega)
      obtain ⟨x, hxx⟩ : ∃ x, x = (l.getD k default).Day := ⟨_, rfl⟩
      obtain ⟨y, hyy⟩ : ∃ y, y = (l.getD (k - 1) default).Day := ⟨_, rfl⟩
      rw [← hxx] at q0
      rw [← hyy] at q1
      have HX := Lib.hid hxx
      have HY := Lib.hid hyy
      have w1 : IntKind.i64.wrap ((k : Int) - 1) = ((k - 1 : Nat) : Int) := by rw [wrap_i64 (by omega) (by omega)]; omega
      clear hx hE hxx hyy
      go_wp2
      go_quiet ((fail))
      go_wp2
      · rename_i hlt2
        go_ret2
        exact ⟨rfl, below_drewN hbr⟩
      · rename_i hge
        go_roundw
        case rel => exact ⟨k + 1, by omega, .inl (by omega), by go_num, below_drewN hbr, Lib.hid (upTo_step hk1 hup.out (by rw [← HX.out, ← HY.out]; exact decide_eq_false (by omega)))⟩
        case measure => simp [intOf]; omega
    · exact absurd (days_no (l := l) (upTo_le hup.out (by have := HL.out; omega))) (by rw [HD.out]; exact fun h => Bool.noConfusion h)


noncomputable def logEnd : Option (List UInt8) → List UInt8 × Int
  | some t => (t, 0)
  | none => ([], 5)

theorem upTo_nofall {l : List Entry} {k : Nat} (h1 : 1 ≤ k) (h2 : k < l.length) (hd : impl_LogOf_d l = false) : decide ((l.getD k default).Day < (l.getD (k - 1) default).Day) = false := by
  cases h : decide ((l.getD k default).Day < (l.getD (k - 1) default).Day) with
  | false => rfl
  | true => rw [days_yes h1 h2 h] at hd; exact Bool.noConfusion hd

theorem new_cell3 (w : World) (a b c : Value) (T : TypeId) : (w.alloc (.cells #[a, b, c] T)).cell? ⟨w.heap.size, 0, none⟩ = some a ∧ (w.alloc (.cells #[a, b, c] T)).cell? ⟨w.heap.size, 1, none⟩ = some b ∧ (w.alloc (.cells #[a, b, c] T)).cell? ⟨w.heap.size, 2, none⟩ = some c := by
  have h := heap_alloc_new w (.cells #[a, b, c] T)
  refine ⟨?_, ?_, ?_⟩ <;> (unfold World.cell?; rw [h]; rfl)

theorem drop_cons {l : List Entry} {j : Nat} (h : j < l.length) : l.drop j = l.getD j default :: l.drop (j + 1) := by
  rw [List.drop_eq_getElem_cons h, List.getD_eq_getElem?_getD, List.getElem?_eq_getElem h]; rfl

theorem logL_cons {acc : List UInt8} {z : Int} {l' l2 : List Entry} {X : Entry} {r : Option (List UInt8)} (e : l' = X :: l2) (h : impl_LogOf_l acc z l' = some r) :
    ∃ z2 t, impl_stamp z X = some z2 ∧ impl_lineOf X z2 = some t ∧ acc.length + t.length ≤ 140737488355328 ∧ (if decide (4000 < acc.length + t.length) = true then some none else impl_LogOf_l (acc ++ t) z2 l2) = some r := by
  subst e
  rw [impl_LogOf_l] at h
  obtain ⟨z2, h1, h⟩ := bd_some h
  obtain ⟨t, h2, h⟩ := bd_some h
  obtain ⟨hk, h⟩ := ck_some h
  exact ⟨z2, t, h1, h2, of_decide_eq_true hk, h⟩

set_option maxHeartbeats 4000000 in
theorem logof_bld (b off cap len : Nat) (l : List Entry) (hlen : len = l.length) (h63 : len ≤ 1099511627776) (w : World) (hb : b < w.heap.size) (he : EntAt w b off l) (hd : impl_LogOf_d l = false) (r : Option (List UInt8)) (hr : impl_LogOf_l [] 0 l = some r)
    (hCF : Calls Tryz.prog 15 #[.slice (some ⟨b, off, none⟩) len cap, .func (.func 16) #[] #[]] w fun e w' => e = .returned (.bool false) ∧ Below w.heap.size w w')
    (hST : ∀ (X : Entry) (z z2 : Int) (W : World), Below w.heap.size w W → impl_stamp z X = some z2 → Calls Tryz.prog 18 #[.int .i64 z, .agg #[.int .i64 X.Day, .string ⟨X.What.toArray⟩, .int .i64 X.Value]] W fun e W' => e = .returned (.int .i64 z2) ∧ Below W.heap.size W W')
    (hLN : ∀ (X : Entry) (z : Int) (t : List UInt8) (W : World), Below w.heap.size w W → impl_lineOf X z = some t → Calls Tryz.prog 20 #[.agg #[.int .i64 X.Day, .string ⟨X.What.toArray⟩, .int .i64 X.Value], .int .i64 z] W fun e W' => e = .returned (.string ⟨t.toArray⟩) ∧ Below W.heap.size W W') :
    Calls Tryz.prog 6 #[.slice (some ⟨b, off, none⟩) len cap] w (LogEnd (logEnd r) w.heap.size w) := by
  have HL := Lib.hid hlen
  have HE := Lib.hid he
  have HD := Lib.hid hd
  have HR := Lib.hid hr
  have HST := Lib.hid hST
  have HLN := Lib.hid hLN
  clear hlen he hd hr hST hLN
  go_enter Tryz.func6, Tryz.ntmps6
  go_wp2_with (go_at_call 15; refine hCF.mono ?_; rintro e w1 ⟨rfl, hb1⟩)
  go_loopw [4] (fun i wr => ∃ k : Nat, 1 ≤ k ∧ (k ≤ len ∨ k = 1) ∧ i = .int .i64 k ∧ Below w.heap.size w wr) (fun i _ => len - (intOf i).toNat)
  case atStart => exact ⟨1, Nat.le_refl _, .inr rfl, rfl, hb1⟩
  case round =>
    obtain ⟨k, hk1, hk2, rfl, hbr⟩ := hrel
    by_cases hlt : k < len
    · have hE := HE.out.below hbr hb
      have q0 := hE.c0 k (by have := HL.out; omega)
      have q1 := hE.c0 (k - 1) (by have := HL.out; omega)
      have hno := upTo_nofall hk1 (by have := HL.out; omega) HD.out
      have w1 : IntKind.i64.wrap ((k : Int) - 1) = ((k - 1 : Nat) : Int) := by rw [wrap_i64 (by omega) (by omega)]; omega
      obtain ⟨x, hxx⟩ : ∃ x, x = (l.getD k default).Day := ⟨_, rfl⟩
      obtain ⟨y, hyy⟩ : ∃ y, y = (l.getD (k - 1) default).Day := ⟨_, rfl⟩
      rw [← hxx] at q0 hno
      rw [← hyy] at q1 hno
      have hge : ¬ x < y := of_decide_eq_false hno
      clear hE hxx hyy hno
      go_wp2
      go_quiet ((fail))
      go_wp2
      go_roundw
      case rel => exact ⟨k + 1, by omega, .inl (by omega), by go_num, below_drewN hbr⟩
      case measure => simp [intOf]; omega
    · clear hCF hb1
      go_wp2
      have hB0 : Below w.heap.size w (wr.alloc (Obj.cells #[Value.pointer none, Value.slice none 0 0] 45)) := hbr.alloc hbr.size _
      have hbl := Bld.new wr
      have hsz := hbr.size
      obtain ⟨nb, hnb⟩ : ∃ nb, nb = wr.heap.size := ⟨_, rfl⟩
      rw [← hnb] at hbl hsz ⊢
      have HNB := Lib.hid hnb
      obtain ⟨ww, hww⟩ : ∃ ww, ww = wr.alloc (Obj.cells #[Value.pointer none, Value.slice none 0 0] 45) := ⟨_, rfl⟩
      rw [← hww] at hbl hB0 ⊢
      have HWW := Lib.hid hww
      have HBL := Lib.hid hbl
      clear hww hnb hbl hbr
      go_loopw [6, 31] (fun last i ws => ∃ (k : Nat) (acc : List UInt8) (z : Int), k ≤ len ∧ last = .int .i64 z ∧ i = .int .i64 k ∧ acc.length ≤ 4000 ∧ Below w.heap.size w ws ∧ Hid (Bld nb acc ws) ∧ Hid (impl_LogOf_l acc z (l.drop k) = some r)) (fun _ i _ => len - (intOf i).toNat)
      case atStart => exact ⟨0, [], 0, Nat.zero_le _, rfl, rfl, by simp, hB0, HBL, Lib.hid HR.out⟩
      case round =>
        obtain ⟨j, acc, z, hj, rfl, rfl, hacc, hbs, hbd, hit⟩ := hrel
        by_cases hjl : j < len
        · obtain ⟨X, hX⟩ : ∃ X, X = l.getD j default := ⟨_, rfl⟩
          have hE := HE.out.below hbs hb
          have q0 := hE.c0 j (by have := HL.out; omega)
          have q1 := hE.c1 j (by have := HL.out; omega)
          have q2 := hE.c2 j (by have := HL.out; omega)
          rw [← hX] at q0 q1 q2
          obtain ⟨z2, t, hz2, ht, hck, hnext⟩ := logL_cons (show l.drop j = X :: l.drop (j + 1) by rw [hX]; exact drop_cons (by have := HL.out; omega)) hit.out
          have HZ2 := Lib.hid hz2
          have HT := Lib.hid ht
          have HN := Lib.hid hnext
          clear hE hX hz2 ht hnext hit
          have hBa := hbs.alloc hbs.size (Obj.cells #[.int .i64 X.Day, .string ⟨X.What.toArray⟩, .int .i64 X.Value] 31)
          have hbd2 := Lib.hid (hbd.out.alloc (Obj.cells #[.int .i64 X.Day, .string ⟨X.What.toArray⟩, .int .i64 X.Value] 31))
          go_wp2_with (first
            | (go_at_call 18; refine (HST.out X z z2 _ hBa HZ2.out).mono ?_; rintro e w3 ⟨rfl, hb3⟩; have c30 := (hb3.cell (p := ⟨wr.heap.size, 0, none⟩) (by simp)).trans (new_cell3 wr _ _ _ _).1; have c31 := (hb3.cell (p := ⟨wr.heap.size, 1, none⟩) (by simp)).trans (new_cell3 wr _ _ _ _).2.1; have c32 := (hb3.cell (p := ⟨wr.heap.size, 2, none⟩) (by simp)).trans (new_cell3 wr _ _ _ _).2.2; have hB3 := hBa.trans (hb3.mono hBa.size); have hbd3 := Lib.hid (hbd2.out.below hb3))
            | (go_at_call 20; refine (HLN.out X z2 t _ hB3 HT.out).mono ?_; rintro e w4 ⟨rfl, hb4⟩; have hB4 := hB3.trans (hb4.mono hB3.size); have hbd4 := Lib.hid (hbd3.out.below hb4))
            | (go_at_call 19; refine (bld_str (s := t) (l := acc) hbd4.out hck rfl).mono ?_; rintro e w5 ⟨rfl, hb5, hb6⟩; have HB5 := Lib.hid hb5; have hB5 := hB4.trans (hb6.mono hsz); clear hb5)
            | (go_at_call 21; refine (bld_len HB5.out).mono ?_; rintro e w6 ⟨rfl, rfl⟩))
          · rename_i hfull
            obtain rfl : r = none := by have h := HN.out; rw [if_pos (decide_eq_true (by omega))] at h; exact (Option.some.inj h).symm
            go_ret2
            exact ⟨rfl, hB5⟩
          · rename_i hroom
            go_roundw
            case rel => exact ⟨j + 1, acc ++ t, z2, by omega, rfl, by go_num, by rw [List.length_append]; omega, hB5, HB5, Lib.hid (by have h := HN.out; rwa [if_neg (by simpa using (by omega : ¬ 4000 < acc.length + t.length))] at h)⟩
            case measure => simp [intOf]; omega
        · have hnil : l.drop j = [] := List.drop_eq_nil_of_le (by have := HL.out; omega)
          obtain rfl : r = some acc := by have h := hit.out; rw [hnil, impl_LogOf_l] at h; exact (Option.some.inj h).symm
          clear hit hnil
          go_wp2_with (go_at_call 22; refine (bld_string hbd.out).mono ?_; rintro e w7 ⟨rfl, hb7⟩)
          go_ret2
          exact ⟨rfl, hbs.trans (hb7.mono hsz)⟩

set_option maxHeartbeats 4000000 in
theorem logof_nil (a : Option Addr) (cap : Nat) (w : World)
    (hCF : Calls Tryz.prog 15 #[.slice a 0 cap, .func (.func 16) #[] #[]] w fun e w' => e = .returned (.bool false) ∧ Below w.heap.size w w') :
    Calls Tryz.prog 6 #[.slice a 0 cap] w (LogEnd ([], 0) w.heap.size w) := by
  go_enter Tryz.func6, Tryz.ntmps6
  go_wp2_with (go_at_call 15; refine hCF.mono ?_; rintro e w1 ⟨rfl, hb1⟩)
  go_loopw [4] (fun i wr => i = .int .i64 1 ∧ Below w.heap.size w wr) (fun i _ => 0)
  case atStart => exact ⟨rfl, hb1⟩
  case round =>
    obtain ⟨rfl, hbr⟩ := hrel
    clear hCF hb1
    go_wp2
    have hB0 : Below w.heap.size w (wr.alloc (Obj.cells #[Value.pointer none, Value.slice none 0 0] 45)) := hbr.alloc hbr.size _
    have hbl := Bld.new wr
    have hsz := hbr.size
    obtain ⟨nb, hnb⟩ : ∃ nb, nb = wr.heap.size := ⟨_, rfl⟩
    rw [← hnb] at hbl hsz ⊢
    have HNB := Lib.hid hnb
    obtain ⟨ww, hww⟩ : ∃ ww, ww = wr.alloc (Obj.cells #[Value.pointer none, Value.slice none 0 0] 45) := ⟨_, rfl⟩
    rw [← hww] at hbl hB0 ⊢
    have HWW := Lib.hid hww
    have HBL := Lib.hid hbl
    clear hww hnb hbl hbr
    go_loopw [6, 31] (fun last i ws => last = .int .i64 0 ∧ i = .int .i64 0 ∧ Below w.heap.size w ws ∧ Hid (Bld nb [] ws)) (fun _ i _ => 0)
    case atStart => exact ⟨rfl, rfl, hB0, HBL⟩
    case round =>
      obtain ⟨rfl, rfl, hbs, hbd⟩ := hrel
      go_wp2_with (go_at_call 22; refine (bld_string hbd.out).mono ?_; rintro e w7 ⟨rfl, hb7⟩)
      go_ret2
      exact ⟨rfl, hbs.trans (hb7.mono hsz)⟩

end Go.Proofs.YtlcabohpeopdcaaGreatDoor.logof
namespace Go.Proofs.YtlcabohpeopdcaaGreatDoor
open Go Go.RowKit
set_option linter.unusedVariables false
set_option linter.unusedSimpArgs false
set_option maxRecDepth 100000

/-! ### The contract -/

noncomputable def entL : List AV → Option (List Entry)
  | [] => some []
  | .agg [.int .i64 d, .str s, .int .i64 v] :: r => (entL r).map fun l => ⟨d, s, v⟩ :: l
  | _ => none

theorem entL_map : ∀ l : List Entry, entL (List.map Entry_av l) = some l
  | [] => rfl
  | e :: l => by
    show entL (.agg [.int .i64 e.Day, .str e.What, .int .i64 e.Value] :: List.map Entry_av l) = _
    rw [entL, entL_map l]; rfl

theorem entL_inv : ∀ {els : List AV} {l : List Entry}, entL els = some l → els = List.map Entry_av l
  | [], l, h => by cases h; rfl
  | a :: r, l, h => by
    unfold entL at h
    split at h
    · rename_i h0; cases h0
    · rename_i d s v r' h0
      cases h0
      cases hr : entL r with
      | none => rw [hr] at h; cases h
      | some l' =>
        rw [hr] at h
        cases h
        rw [entL_inv hr]; rfl
    · cases h

noncomputable def logOfF : List AV → Rs
  | [.sl 3 els] => match (entL els).bind impl_LogOf with
    | some y => ⟨true, .tup [.str y.1, .int .i64 y.2], [.any]⟩
    | none => Rs.bad
  | _ => Rs.bad

noncomputable def c_impl_LogOf : Ctr := ⟨[.bor], false, logOfF⟩

theorem Fs_impl_LogOf {list : List Entry} {y_ : List UInt8 × Int} (h : impl_LogOf list = some y_) : c_impl_LogOf.F [.sl 3 (List.map Entry_av list)] = ⟨true, .tup [.str y_.1, .int .i64 y_.2], [.any]⟩ := by
  show (match (entL (List.map Entry_av list)).bind impl_LogOf with
    | some y => (⟨true, .tup [.str y.1, .int .i64 y.2], [.any]⟩ : Rs)
    | none => Rs.bad) = _
  rw [entL_map, Option.bind_some, h]
theorem M_impl_LogOf : c_impl_LogOf.modes = [.bor] := rfl
theorem Fl_impl_LogOf : c_impl_LogOf.flat = false := rfl
attribute [go_sem] M_impl_LogOf Fl_impl_LogOf

theorem logOfF_inv {args : List AV} (h : (logOfF args).ok = true) : ∃ l y, impl_LogOf l = some y ∧ args = [.sl 3 (List.map Entry_av l)] := by
  unfold logOfF at h
  split at h
  · rename_i els
    split at h
    · rename_i y hy
      obtain ⟨l, h1, h2⟩ := Option.bind_eq_some_iff.1 hy
      exact ⟨l, y, h2, by rw [entL_inv h1]⟩
    · cases h
  · cases h

theorem logof_calls {l : List Entry} {y : List UInt8 × Int} (h : impl_LogOf l = some y) {v : Value} {w : World} (hv : VR (fun _ => False) w v (.sl 3 (List.map Entry_av l))) (hg : GT (fun _ => False) w) :
    Calls Tryz.prog 6 #[v] w (logof.LogEnd y w.heap.size w) := by
  unfold impl_LogOf at h
  obtain ⟨hk, h⟩ := ck_some h
  obtain ⟨c, hc, h⟩ := bd_some h
  obtain ⟨a, cap, rfl, hp⟩ := logof.ents_of hv
  have hCF : Calls Tryz.prog 15 #[.slice a l.length cap, .func (.func 16) #[] #[]] w fun e w' => e = .returned (.bool c) ∧ Below w.heap.size w w' := by
    refine (call_frz s_20 Tryz.func15 rfl (by decide +kernel) (args := [.sl 3 (List.map Entry_av l), .fn (.func 16) [] []]) (vargs := #[.slice a l.length cap, .func (.func 16) #[] #[]]) rfl (by rw [M_20]; rfl) rfl (fun j hj => ?_) hg (Fs_20 hc)).mono fun e w' ⟨u, h1, h2, h3⟩ => ?_
    · have hj' : j < 2 := by simpa using hj
      match j, hj' with
      | 0, _ => exact hv
      | 1, _ => exact .fn rfl rfl (fun j hj => absurd hj (by simp)) (fun j hj => absurd hj (by simp))
    · have h3 : VR _ w' u (.bool c) := h3
      cases h3
      exact ⟨h1, below_of_same' h2⟩
  cases c with
  | true =>
    simp only [if_true] at h
    cases h
    exact logof.logof_full a l.length cap w hCF
  | false =>
    simp only [Bool.false_eq_true, if_false] at h
    have hST : ∀ (X : Entry) (z z2 : Int) (W : World), Below w.heap.size w W → impl_stamp z X = some z2 → Calls Tryz.prog 18 #[.int .i64 z, .agg #[.int .i64 X.Day, .string ⟨X.What.toArray⟩, .int .i64 X.Value]] W fun e W' => e = .returned (.int .i64 z2) ∧ Below W.heap.size W W' := by
      intro X z z2 W hB hX
      refine (call_frz s_25 Tryz.func18 rfl (by decide +kernel) (args := [.int .i64 z, Entry_av X]) (vargs := #[.int .i64 z, logof.entV X]) rfl (by rw [M_25]; rfl) rfl (fun j hj => ?_) (hg.mono (sameOf hB) fun _ _ c => c) (Fs_25 hX)).mono fun e w' ⟨u, h1, h2, h3⟩ => ?_
      · have hj' : j < 2 := by simpa using hj
        match j, hj' with
        | 0, _ => exact .int
        | 1, _ => exact logof.entV_VR X
      · have h3 : VR _ w' u (.int .i64 z2) := h3
        cases h3
        exact ⟨h1, below_of_same' h2⟩
    have hLN : ∀ (X : Entry) (z : Int) (t : List UInt8) (W : World), Below w.heap.size w W → impl_lineOf X z = some t → Calls Tryz.prog 20 #[.agg #[.int .i64 X.Day, .string ⟨X.What.toArray⟩, .int .i64 X.Value], .int .i64 z] W fun e W' => e = .returned (.string ⟨t.toArray⟩) ∧ Below W.heap.size W W' := by
      intro X z t W hB hX
      refine (call_frz s_26 Tryz.func20 rfl (by decide +kernel) (args := [Entry_av X, .int .i64 z]) (vargs := #[logof.entV X, .int .i64 z]) rfl (by rw [M_26]; rfl) rfl (fun j hj => ?_) (hg.mono (sameOf hB) fun _ _ c => c) (Fs_26 hX)).mono fun e w' ⟨u, h1, h2, h3⟩ => ?_
      · have hj' : j < 2 := by simpa using hj
        match j, hj' with
        | 0, _ => exact logof.entV_VR X
        | 1, _ => exact .int
      · have h3 : VR _ w' u (.str t) := h3
        cases h3
        exact ⟨h1, below_of_same' h2⟩
    cases l with
    | nil =>
      have h0 : impl_LogOf_d [] = false := rfl
      rw [h0] at h
      simp only [Bool.false_eq_true, if_false, impl_LogOf_l, Option.bind_some, Option.some.injEq] at h
      subst h
      exact logof.logof_nil a cap w hCF
    | cons e0 l0 =>
      obtain ⟨b, off, rfl, hb, he⟩ := hp (by simp)
      cases hd : impl_LogOf_d (e0 :: l0) with
      | true =>
        rw [hd] at h
        simp only [if_true] at h
        cases h
        exact logof.logof_days b off cap _ _ rfl (of_decide_eq_true hk) w hb he hd hCF
      | false =>
        rw [hd] at h
        simp only [Bool.false_eq_true, if_false] at h
        obtain ⟨r, hr, h⟩ := bd_some h
        have : logof.logEnd r = y := by cases r <;> exact Option.some.inj h
        rw [← this]
        exact logof.logof_bld b off cap _ _ rfl (of_decide_eq_true hk) w hb he hd r hr hCF hST hLN

theorem s_impl_LogOf : Sound Tryz.prog 6 c_impl_LogOf := by
  refine ⟨fun e => Bool.noConfusion e, fun F g0 w args vargs hsh hsz hfr hok => ⟨fun e => Bool.noConfusion e, ?_⟩⟩
  obtain ⟨l, y, hy, rfl⟩ := logOfF_inv hok
  have h0 := arg_VR hfr (i := 0) (by simp)
  rw [vargs_one hsz]
  generalize vargs.getD 0 undef = v at h0
  have hv : VR (fun _ => False) w v (.sl 3 (List.map Entry_av l)) := VR.mono (Same.refl _ _) (fun _ _ c => c.elim) h0
  have he := Go.Proofs.enters_of (P := Tryz.prog) Tryz.func6 (by kernel_rfl) rfl
  unfold Invokes
  rw [he, Fs_impl_LogOf hy]
  refine (logof_calls hy hv (hfr.tab.mono (Same.refl _ _) fun _ _ c => c.elim)).mono ?_
  rintro e' w' ⟨rfl, hB⟩
  refine ⟨_, g0, [], id, rfl, back_val (sameOf hB) ⟨_, rfl, rfl, fun j hj => ?_⟩ (fun i hi => ?_) (bor1 rfl)⟩
  · match j, hj with
    | 0, _ => exact .str
    | 1, _ => exact .int
  · obtain ⟨j, _, hj, hf⟩ := hi
    match j, hj with
    | 0, _ => exact absurd hf Bool.false_ne_true
    | 1, _ => exact absurd hf Bool.false_ne_true

end Go.Proofs.YtlcabohpeopdcaaGreatDoor
