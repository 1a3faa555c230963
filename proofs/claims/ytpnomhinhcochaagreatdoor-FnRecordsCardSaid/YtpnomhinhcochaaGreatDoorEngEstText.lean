/- impl.EstimatesText at this translation, walked by hand: the lines by contract, the builder by the library's. No condition. -/
import Derived.Test.YtpnomhinhcochaaGreatDoorRCC
import Derived.Test.YtpnomhinhcochaaGreatDoorEngBld
import Derived.Deep.QuietTactic
import Derived.BigQuiet
import Derived.LoopTactic
import Derived.WalkKit
import Derived.Lib.Hide
namespace Go.Proofs.YtpnomhinhcochaaGreatDoor.esttx
open Go Go.RowKit Go.Proofs.YtpnomhinhcochaaGreatDoor
set_option linter.unusedVariables false
set_option linter.unusedSimpArgs false
set_option maxRecDepth 100000

def estV (e : Estimate) : Value := .agg #[.int .i64 e.Time, .string ⟨e.Star.toArray⟩, .string ⟨e.Observer.toArray⟩, .int .i64 e.Mag, .bool e.Fainter]

/-- The estimates lie in a row of block b. -/
structure EstAt (W : World) (b off : Nat) (l : List Estimate) : Prop where
  c0 : ∀ k, k < l.length → W.cell? ⟨b, off + k * 5, none⟩ = some (.int .i64 (l.getD k default).Time)
  c1 : ∀ k, k < l.length → W.cell? ⟨b, off + k * 5 + 1, none⟩ = some (.string ⟨(l.getD k default).Star.toArray⟩)
  c2 : ∀ k, k < l.length → W.cell? ⟨b, off + k * 5 + 2, none⟩ = some (.string ⟨(l.getD k default).Observer.toArray⟩)
  c3 : ∀ k, k < l.length → W.cell? ⟨b, off + k * 5 + 3, none⟩ = some (.int .i64 (l.getD k default).Mag)
  c4 : ∀ k, k < l.length → W.cell? ⟨b, off + k * 5 + 4, none⟩ = some (.bool (l.getD k default).Fainter)

theorem EstAt.below {n₀ : Nat} {A B : World} (h : Below n₀ A B) {b off : Nat} {l : List Estimate} (hb : b < n₀) (he : EstAt A b off l) : EstAt B b off l :=
  ⟨fun k hk => (h.cell (p := ⟨b, _, none⟩) hb).trans (he.c0 k hk), fun k hk => (h.cell (p := ⟨b, _, none⟩) hb).trans (he.c1 k hk), fun k hk => (h.cell (p := ⟨b, _, none⟩) hb).trans (he.c2 k hk),
   fun k hk => (h.cell (p := ⟨b, _, none⟩) hb).trans (he.c3 k hk), fun k hk => (h.cell (p := ⟨b, _, none⟩) hb).trans (he.c4 k hk)⟩

theorem estV_VR {S : Nat → Prop} {w : World} (e : Estimate) : VR S w (estV e) (Estimate_av e) := by
  refine .agg rfl (fun j hj => ?_) (fun j hj => ?_)
  · match j, hj with
    | 0, _ => rfl
    | 1, _ => rfl
    | 2, _ => rfl
    | 3, _ => rfl
    | 4, _ => rfl
  · match j, hj with
    | 0, _ => exact .int
    | 1, _ => exact .str
    | 2, _ => exact .str
    | 3, _ => exact .int
    | 4, _ => exact .bool

theorem ests_of {S : Nat → Prop} {w : World} {v : Value} {l : List Estimate} (h : VR S w v (.sl 5 (List.map Estimate_av l))) :
    ∃ a cap, v = .slice a l.length cap ∧ (0 < l.length → ∃ b off, a = some ⟨b, off, none⟩ ∧ b < w.heap.size ∧ EstAt w b off l) := by
  cases h with
  | @sl a n cap sz els b off rd hn hcap hsz ha hc hw hr =>
    have hl : (List.map Estimate_av l).length = l.length := by simp
    refine ⟨a, cap, by rw [hn, hl], fun hp => ?_⟩
    obtain ⟨e, _⟩ := ha (by rw [hl]; exact hp)
    have hb := World.block_lt_of_cell? w ⟨b, off + (0 * 5 + 0), none⟩ (hw 0 0 (by rw [hl]; exact hp) (by omega))
    have hget : ∀ k, k < l.length → (List.map Estimate_av l).getD k .any = Estimate_av (l.getD k default) := fun k hk => by
      simp [List.getD_eq_getElem?_getD, hk]
    have one : ∀ k j, k < l.length → j < 5 → w.cell? ⟨b, off + (k * 5 + j), none⟩ = some (rd k j) ∧ VR S w (rd k j) ((Estimate_av (l.getD k default)).cells.getD j .any) := fun k j hk hj => by
      refine ⟨hw k j (by rw [hl]; exact hk) hj, ?_⟩
      have := hr k j (by rw [hl]; exact hk) hj
      rwa [hget k hk] at this
    have i : ∀ {u : Value} {k : IntKind} {z : Int}, VR S w u (.int k z) → u = .int k z := fun h => by cases h; rfl
    have s : ∀ {u : Value} {z : List UInt8}, VR S w u (.str z) → u = .string ⟨z.toArray⟩ := fun h => by cases h; rfl
    have bo : ∀ {u : Value} {z : Bool}, VR S w u (.bool z) → u = .bool z := fun h => by cases h; rfl
    refine ⟨b, off, e, hb, ⟨fun k hk => ?_, fun k hk => ?_, fun k hk => ?_, fun k hk => ?_, fun k hk => ?_⟩⟩
    · obtain ⟨q, r⟩ := one k 0 hk (by omega); rw [← i r]; exact q
    · obtain ⟨q, r⟩ := one k 1 hk (by omega); rw [← s r]; exact q
    · obtain ⟨q, r⟩ := one k 2 hk (by omega); rw [← s r]; exact q
    · obtain ⟨q, r⟩ := one k 3 hk (by omega); rw [← i r]; exact q
    · obtain ⟨q, r⟩ := one k 4 hk (by omega); rw [← bo r]; exact q

theorem new_cell5 (w : World) (a b c d e : Value) (T : TypeId) : (w.alloc (.cells #[a, b, c, d, e] T)).cell? ⟨w.heap.size, 0, none⟩ = some a ∧ (w.alloc (.cells #[a, b, c, d, e] T)).cell? ⟨w.heap.size, 1, none⟩ = some b ∧ (w.alloc (.cells #[a, b, c, d, e] T)).cell? ⟨w.heap.size, 2, none⟩ = some c ∧
    (w.alloc (.cells #[a, b, c, d, e] T)).cell? ⟨w.heap.size, 3, none⟩ = some d ∧ (w.alloc (.cells #[a, b, c, d, e] T)).cell? ⟨w.heap.size, 4, none⟩ = some e := by
  have h := heap_alloc_new w (.cells #[a, b, c, d, e] T)
  refine ⟨?_, ?_, ?_, ?_, ?_⟩ <;> (unfold World.cell?; rw [h]; rfl)

theorem drop_cons {l : List Estimate} {j : Nat} (h : j < l.length) : l.drop j = l.getD j default :: l.drop (j + 1) := by
  rw [List.drop_eq_getElem_cons h, List.getD_eq_getElem?_getD, List.getElem?_eq_getElem h]; rfl

theorem textL_cons {acc r : List UInt8} {l' l2 : List Estimate} {X : Estimate} (e : l' = X :: l2) (h : impl_EstimatesText_l acc l' = some r) :
    ∃ t, impl_Estimate_line X = some t ∧ acc.length + t.length + 1 ≤ 140737488355328 ∧ impl_EstimatesText_l (acc ++ t ++ [10]) l2 = some r := by
  subst e
  rw [impl_EstimatesText_l] at h
  obtain ⟨t, h2, h⟩ := bd_some h
  obtain ⟨hk, h⟩ := ck_some h
  exact ⟨t, h2, of_decide_eq_true hk, h⟩

def TextEnd (r : List UInt8) (N : Nat) (w : World) (e : Ending) (w' : World) : Prop := e = .returned (.string ⟨r.toArray⟩) ∧ Below N w w'

theorem text_bad (a : Option Addr) (len cap : Nat) (w : World)
    (hVE : Calls Tryz.prog 14 #[.slice a len cap] w fun e w' => e = .returned (.bool false) ∧ Below w.heap.size w w') :
    Calls Tryz.prog 10 #[.slice a len cap] w (TextEnd [] w.heap.size w) := by
  go_enter Tryz.func10, Tryz.ntmps10
  go_wp2_with (go_at_call 14; refine hVE.mono ?_; rintro e w1 ⟨rfl, hb1⟩)
  go_ret
  exact ⟨rfl, hb1⟩

set_option maxHeartbeats 4000000 in
theorem text_nil (a : Option Addr) (cap : Nat) (w : World)
    (hVE : Calls Tryz.prog 14 #[.slice a 0 cap] w fun e w' => e = .returned (.bool true) ∧ Below w.heap.size w w') :
    Calls Tryz.prog 10 #[.slice a 0 cap] w (TextEnd [] w.heap.size w) := by
  go_enter Tryz.func10, Tryz.ntmps10
  go_wp2_with (go_at_call 14; refine hVE.mono ?_; rintro e w1 ⟨rfl, hb1⟩)
  have hB0 : Below w.heap.size w (w1.alloc (Obj.cells #[Value.pointer none, Value.slice none 0 0] 48)) := hb1.alloc hb1.size _
  have hbl := Bld.new w1
  have hsz := hb1.size
  obtain ⟨nb, hnb⟩ : ∃ nb, nb = w1.heap.size := ⟨_, rfl⟩
  rw [← hnb] at hbl hsz ⊢
  have HNB := Lib.hid hnb
  obtain ⟨ww, hww⟩ : ∃ ww, ww = w1.alloc (Obj.cells #[Value.pointer none, Value.slice none 0 0] 48) := ⟨_, rfl⟩
  rw [← hww] at hbl hB0 ⊢
  have HWW := Lib.hid hww
  have HBL := Lib.hid hbl
  clear hww hnb hbl hb1 hVE
  go_loopw [11] (fun i ws => i = .int .i64 0 ∧ Below w.heap.size w ws ∧ Hid (Bld nb [] ws)) (fun i _ => 0)
  case atStart => exact ⟨rfl, hB0, HBL⟩
  case round =>
    obtain ⟨rfl, hbs, hbd⟩ := hrel
    go_wp2_with (go_at_call 26; refine (bld_string hbd.out).mono ?_; rintro e w7 ⟨rfl, hb7⟩)
    go_ret
    exact ⟨rfl, hbs.trans (hb7.mono hsz)⟩

set_option maxHeartbeats 4000000 in
theorem text_all (b off cap len : Nat) (l : List Estimate) (hlen : len = l.length) (h63 : len ≤ 1099511627776) (w : World) (hb : b < w.heap.size) (he : EstAt w b off l) (r : List UInt8) (hr : impl_EstimatesText_l [] l = some r)
    (hVE : Calls Tryz.prog 14 #[.slice (some ⟨b, off, none⟩) len cap] w fun e w' => e = .returned (.bool true) ∧ Below w.heap.size w w')
    (hLN : ∀ (X : Estimate) (t : List UInt8) (W : World), Below w.heap.size w W → impl_Estimate_line X = some t → Calls Tryz.prog 24 #[.agg #[.int .i64 X.Time, .string ⟨X.Star.toArray⟩, .string ⟨X.Observer.toArray⟩, .int .i64 X.Mag, .bool X.Fainter]] W fun e W' => e = .returned (.string ⟨t.toArray⟩) ∧ Below W.heap.size W W') :
    Calls Tryz.prog 10 #[.slice (some ⟨b, off, none⟩) len cap] w (TextEnd r w.heap.size w) := by
  have HL := Lib.hid hlen
  have HE := Lib.hid he
  have HR := Lib.hid hr
  have HLN := Lib.hid hLN
  clear hlen he hr hLN
  go_enter Tryz.func10, Tryz.ntmps10
  go_wp2_with (go_at_call 14; refine hVE.mono ?_; rintro e w1 ⟨rfl, hb1⟩)
  have hB0 : Below w.heap.size w (w1.alloc (Obj.cells #[Value.pointer none, Value.slice none 0 0] 48)) := hb1.alloc hb1.size _
  have hbl := Bld.new w1
  have hsz := hb1.size
  obtain ⟨nb, hnb⟩ : ∃ nb, nb = w1.heap.size := ⟨_, rfl⟩
  rw [← hnb] at hbl hsz ⊢
  have HNB := Lib.hid hnb
  obtain ⟨ww, hww⟩ : ∃ ww, ww = w1.alloc (Obj.cells #[Value.pointer none, Value.slice none 0 0] 48) := ⟨_, rfl⟩
  rw [← hww] at hbl hB0 ⊢
  have HWW := Lib.hid hww
  have HBL := Lib.hid hbl
  clear hww hnb hbl hb1 hVE
  go_loopw [11] (fun i ws => ∃ (k : Nat) (acc : List UInt8), k ≤ len ∧ i = .int .i64 k ∧ Below w.heap.size w ws ∧ Hid (Bld nb acc ws) ∧ Hid (impl_EstimatesText_l acc (l.drop k) = some r)) (fun i _ => len - (intOf i).toNat)
  case atStart => exact ⟨0, [], Nat.zero_le _, rfl, hB0, HBL, Lib.hid HR.out⟩
  case round =>
    obtain ⟨j, acc, hj, rfl, hbs, hbd, hit⟩ := hrel
    by_cases hjl : j < len
    · obtain ⟨X, hX⟩ : ∃ X, X = l.getD j default := ⟨_, rfl⟩
      have hE := HE.out.below hbs hb
      have q0 := hE.c0 j (by have := HL.out; omega)
      have q1 := hE.c1 j (by have := HL.out; omega)
      have q2 := hE.c2 j (by have := HL.out; omega)
      have q3 := hE.c3 j (by have := HL.out; omega)
      have q4 := hE.c4 j (by have := HL.out; omega)
      rw [← hX] at q0 q1 q2 q3 q4
      obtain ⟨t, ht, hck, hnext⟩ := textL_cons (show l.drop j = X :: l.drop (j + 1) by rw [hX]; exact drop_cons (by have := HL.out; omega)) hit.out
      have HT := Lib.hid ht
      have HN := Lib.hid hnext
      clear hE hX ht hnext hit
      have hBa := hbs.alloc hbs.size (Obj.cells #[.int .i64 X.Time, .string ⟨X.Star.toArray⟩, .string ⟨X.Observer.toArray⟩, .int .i64 X.Mag, .bool X.Fainter] 27)
      have hbd2 := Lib.hid (hbd.out.alloc (Obj.cells #[.int .i64 X.Time, .string ⟨X.Star.toArray⟩, .string ⟨X.Observer.toArray⟩, .int .i64 X.Mag, .bool X.Fainter] 27))
      go_wp2_with (first
        | (go_at_call 24; refine (HLN.out X t _ hBa HT.out).mono ?_; rintro e w4 ⟨rfl, hb4⟩; have hB4 := hBa.trans (hb4.mono hBa.size); have hbd4 := Lib.hid (hbd2.out.below hb4))
        | (go_at_call 23; refine (bld_str (s := t) (l := acc) hbd4.out (by omega) rfl).mono ?_; rintro e w5 ⟨rfl, hb5, hb6⟩; have HB5 := Lib.hid hb5; have hB5 := hB4.trans (hb6.mono hsz); clear hb5)
        | (go_at_call 25; refine (bld_byte (l := acc ++ t) 10 HB5.out (by rw [List.length_append]; omega) rfl).mono ?_; rintro e w6 ⟨rfl, hb7, hb8⟩; have HB7 := Lib.hid hb7; have hB7 := hB5.trans (hb8.mono hsz); clear hb7))
      go_roundw
      case rel => exact ⟨j + 1, acc ++ t ++ [10], by omega, by go_num, hB7, HB7, HN⟩
      case measure => simp [intOf]; omega
    · have hnil : l.drop j = [] := List.drop_eq_nil_of_le (by have := HL.out; omega)
      obtain rfl : r = acc := by have h := hit.out; rw [hnil, impl_EstimatesText_l] at h; exact (Option.some.inj h).symm
      clear hit hnil
      go_wp2_with (go_at_call 26; refine (bld_string hbd.out).mono ?_; rintro e w7 ⟨rfl, hb7⟩)
      go_ret
      exact ⟨rfl, hbs.trans (hb7.mono hsz)⟩

end Go.Proofs.YtpnomhinhcochaaGreatDoor.esttx
namespace Go.Proofs.YtpnomhinhcochaaGreatDoor
open Go Go.RowKit
set_option linter.unusedVariables false
set_option linter.unusedSimpArgs false
set_option maxRecDepth 100000

/-! ### The contract -/

noncomputable def estL : List AV → Option (List Estimate)
  | [] => some []
  | .agg [.int .i64 t, .str s, .str o, .int .i64 m, .bool f] :: r => (estL r).map fun l => ⟨t, s, o, m, f⟩ :: l
  | _ => none

theorem estL_map : ∀ l : List Estimate, estL (List.map Estimate_av l) = some l
  | [] => rfl
  | e :: l => by
    show estL (.agg [.int .i64 e.Time, .str e.Star, .str e.Observer, .int .i64 e.Mag, .bool e.Fainter] :: List.map Estimate_av l) = _
    rw [estL, estL_map l]; rfl

theorem estL_inv : ∀ {els : List AV} {l : List Estimate}, estL els = some l → els = List.map Estimate_av l
  | [], l, h => by cases h; rfl
  | a :: r, l, h => by
    unfold estL at h
    split at h
    · rename_i h0; cases h0
    · rename_i t s o m f r' h0
      cases h0
      cases hr : estL r with
      | none => rw [hr] at h; cases h
      | some l' =>
        rw [hr] at h
        cases h
        rw [estL_inv hr]; rfl
    · cases h

noncomputable def estTextF : List AV → Rs
  | [.sl 5 els] => match (estL els).bind impl_EstimatesText with
    | some y => ⟨true, .str y, [.any]⟩
    | none => Rs.bad
  | _ => Rs.bad

noncomputable def c_impl_EstimatesText : Ctr := ⟨[.bor], true, estTextF⟩

theorem Fs_impl_EstimatesText {list : List Estimate} {y_ : List UInt8} (h : impl_EstimatesText list = some y_) : c_impl_EstimatesText.F [.sl 5 (List.map Estimate_av list)] = ⟨true, .str y_, [.any]⟩ := by
  show (match (estL (List.map Estimate_av list)).bind impl_EstimatesText with
    | some y => (⟨true, .str y, [.any]⟩ : Rs)
    | none => Rs.bad) = _
  rw [estL_map, Option.bind_some, h]
theorem M_impl_EstimatesText : c_impl_EstimatesText.modes = [.bor] := rfl
theorem Fl_impl_EstimatesText : c_impl_EstimatesText.flat = true := rfl
attribute [go_sem] M_impl_EstimatesText Fl_impl_EstimatesText

theorem estTextF_inv {args : List AV} (h : (estTextF args).ok = true) : ∃ l y, impl_EstimatesText l = some y ∧ args = [.sl 5 (List.map Estimate_av l)] := by
  unfold estTextF at h
  split at h
  · rename_i els
    split at h
    · rename_i y hy
      obtain ⟨l, h1, h2⟩ := Option.bind_eq_some_iff.1 hy
      exact ⟨l, y, h2, by rw [estL_inv h1]⟩
    · cases h
  · cases h

theorem esttext_calls {l : List Estimate} {y : List UInt8} (h : impl_EstimatesText l = some y) {v : Value} {w : World} (hv : VR (fun _ => False) w v (.sl 5 (List.map Estimate_av l))) (hg : GT (fun _ => False) w) :
    Calls Tryz.prog 10 #[v] w (esttx.TextEnd y w.heap.size w) := by
  unfold impl_EstimatesText at h
  obtain ⟨c, hc, h⟩ := bd_some h
  obtain ⟨a, cap, rfl, hp⟩ := esttx.ests_of hv
  have hVE : Calls Tryz.prog 14 #[.slice a l.length cap] w fun e w' => e = .returned (.bool c) ∧ Below w.heap.size w w' := by
    refine (call_frz s_25 Tryz.func14 rfl (by decide +kernel) (args := [.sl 5 (List.map Estimate_av l)]) (vargs := #[.slice a l.length cap]) rfl (by rw [M_25]; rfl) rfl (fun j hj => ?_) hg (Fs_25 hc)).mono fun e w' ⟨u, h1, h2, h3⟩ => ?_
    · have hj' : j < 1 := by simpa using hj
      match j, hj' with
      | 0, _ => exact hv
    · have h3 : VR _ w' u (.bool c) := h3
      cases h3
      exact ⟨h1, below_of_same' h2⟩
  cases c with
  | false =>
    simp only [Bool.not_false, if_true] at h
    cases h
    exact esttx.text_bad a l.length cap w hVE
  | true =>
    simp only [Bool.not_true, Bool.false_eq_true, if_false] at h
    obtain ⟨hk, h⟩ := ck_some h
    have hLN : ∀ (X : Estimate) (t : List UInt8) (W : World), Below w.heap.size w W → impl_Estimate_line X = some t → Calls Tryz.prog 24 #[.agg #[.int .i64 X.Time, .string ⟨X.Star.toArray⟩, .string ⟨X.Observer.toArray⟩, .int .i64 X.Mag, .bool X.Fainter]] W fun e W' => e = .returned (.string ⟨t.toArray⟩) ∧ Below W.heap.size W W' := by
      intro X t W hB hX
      refine (call_frz s_40 Tryz.func24 rfl (by decide +kernel) (args := [Estimate_av X]) (vargs := #[esttx.estV X]) rfl (by rw [M_40]; rfl) rfl (fun j hj => ?_) (hg.mono (sameOf hB) fun _ _ c => c) (Fs_40 hX)).mono fun e w' ⟨u, h1, h2, h3⟩ => ?_
      · have hj' : j < 1 := by simpa using hj
        match j, hj' with
        | 0, _ => exact esttx.estV_VR X
      · have h3 : VR _ w' u (.str t) := h3
        cases h3
        exact ⟨h1, below_of_same' h2⟩
    cases l with
    | nil =>
      simp only [impl_EstimatesText_l, Option.some.injEq] at h
      subst h
      exact esttx.text_nil a cap w hVE
    | cons e0 l0 =>
      obtain ⟨b, off, rfl, hb, he⟩ := hp (by simp)
      exact esttx.text_all b off cap _ _ rfl (of_decide_eq_true hk) w hb he y h hVE hLN

theorem s_impl_EstimatesText : Sound Tryz.prog 10 c_impl_EstimatesText := by
  refine ⟨fun _ => rfl, fun F g0 w args vargs hsh hsz hfr hok => ?_⟩
  obtain ⟨l, y, hy, rfl⟩ := estTextF_inv hok
  refine ⟨fun _ => by rw [Fs_impl_EstimatesText hy]; rfl, ?_⟩
  have h0 := arg_VR hfr (i := 0) (by simp)
  rw [vargs_one hsz]
  generalize vargs.getD 0 undef = v at h0
  have hv : VR (fun _ => False) w v (.sl 5 (List.map Estimate_av l)) := VR.mono (Same.refl _ _) (fun _ _ c => c.elim) h0
  have he := Go.Proofs.enters_of (P := Tryz.prog) Tryz.func10 (by kernel_rfl) rfl
  unfold Invokes
  rw [he, Fs_impl_EstimatesText hy]
  refine (esttext_calls hy hv (hfr.tab.mono (Same.refl _ _) fun _ _ c => c.elim)).mono ?_
  rintro e' w' ⟨rfl, hB⟩
  exact ⟨_, g0, [], id, rfl, back_val (sameOf hB) .str (fun i hi => absurd hi.2 Bool.false_ne_true) (bor1 rfl)⟩

end Go.Proofs.YtpnomhinhcochaaGreatDoor
