/- The program's reading of a decimal numeral at this translation. No condition. -/
import Derived.Test.YtfaenphcgfocnaaGreatDoorEngSP
import Derived.Test.YtfaenphcgfocnaaGreatDoorEngSI
import Derived.Test.YtfaenphcgfocnaaGreatDoorEngSF
import Derived.Shelf.Strings.Prefix
import Derived.Shelf.Strconv.ParseIntPublic10
import Derived.WalkKit
import Derived.Lib.Hide
namespace Go.Proofs.YtfaenphcgfocnaaGreatDoor
open Go Go.RowKit
set_option linter.unusedVariables false
set_option linter.unusedSimpArgs false
set_option maxRecDepth 100000
theorem Oc {w w':World} (h:Below w.heap.size w w'):At (fun _ => False) w w':=⟨h.os,h.tape,h.output,h.size,fun b hb _ => h.block b hb⟩
theorem cc {w:World} (h:GT (fun _ => False) w):∃ tp p,w.cell? ⟨2,0,none⟩ = some (.iface tp p):=by
 obtain ⟨_,cs,T,fz,hh,tp,p,hm⟩:=h (2,fun cs => ∃ tp p,cs = #[.iface tp p]) (by
  unfold dJ
  repeat (first | exact List.mem_cons_self | apply List.mem_cons_of_mem))
 have hm':cs = #[.iface tp p]:=hm
 subst hm'
 exact ⟨tp,p,by simp only [World.cell?,hh]; rfl⟩
theorem ey {w:World} (h:GT (fun _ => False) w):∃ tp p,w.cell? ⟨3,0,none⟩ = some (.iface tp p):=by
 obtain ⟨_,cs,T,fz,hh,tp,p,hm⟩:=h (3,fun cs => ∃ tp p,cs = #[.iface tp p]) (by
  unfold dJ
  repeat (first | exact List.mem_cons_self | apply List.mem_cons_of_mem))
 have hm':cs = #[.iface tp p]:=hm
 subst hm'
 exact ⟨tp,p,by simp only [World.cell?,hh]; rfl⟩
theorem ZA (l:List UInt8):(⟨l.toArray⟩:ByteArray).toList = l:=by
 rw [ByteArray.toList_eq]
def uf (s:List UInt8) (w:World) (e:Ending) (w':World):Prop :=
 At (fun _ => False) w w' ∧ ((∃ v,Lib.parseIntB 64 s = .ok v ∧ e = .returned (.tuple #[.int .i64 v,.nilIface])) ∨ ((∀ v,Lib.parseIntB 64 s ≠ .ok v) ∧ ∃ n tp p,e = .returned (.tuple #[.int .i64 n,.iface tp (.pointer (some p))])))
theorem ke (s:List UInt8) (w:World) (hl:s.length ≤ 281474976710656) (hg:GT (fun _ => False) w) :
  Calls Tryz.prog 104 #[.string ⟨s.toArray⟩,.int .i64 10,.int .i64 64] w (uf s w):=by
 rcases hp:Lib.parseIntB 64 s with v | _ | _
 ·refine (Any.strconv_ParseInt_10_at64_ok Tryz.laysC174 ⟨s.toArray⟩ (show s.length ≤ _ by omega) v hp w).mono fun e w' ⟨h1,h2⟩ => ⟨?_,.inl ⟨v,hp,h1⟩⟩
  rcases h2 with rfl | ⟨t,rfl⟩
  ·exact At.refl _ _
  ·exact Oc (Lib.bytesWorld_below _ _ _)
 ·obtain ⟨tp,p,hv⟩:=cc hg
  refine (Any.strconv_ParseInt_10_at64_syntax Tryz.laysC174 ⟨s.toArray⟩ hl hp _ w hv (.inr ⟨tp,p,rfl⟩)).mono fun e w' ⟨N,h1,_,_,h2⟩ => ⟨Oc h2,.inr ⟨(fun v c => by rw [hp] at c; cases c),_,_,_,h1⟩⟩
 ·obtain ⟨tp,p,hv⟩:=ey hg
  refine (Any.strconv_ParseInt_10_at64_range Tryz.laysC174 ⟨s.toArray⟩ hl hp _ w hv (.inr ⟨tp,p,rfl⟩)).mono fun e w' ⟨N,h1,_,_,h2⟩ => ⟨Oc h2,.inr ⟨(fun v c => by rw [hp] at c; cases c),_,_,_,h1⟩⟩
def pL (s:List UInt8) (w:World) (e:Ending) (w':World):Prop:=At (fun _ => False) w w' ∧ e = .returned (.tuple #[.int .i64 (Dl s).1,.bool (Dl s).2])
theorem nV (n:Int) (w:World) (h0:-9223372036854775808 ≤ n) (h1:n ≤ 9223372036854775807) (hg:GT (fun _ => False) w) :
  Calls Tryz.prog 134 #[.int .i64 n,.int .i64 10] w fun e w' => e = .returned (.string ⟨(Lib.itoa n).toArray⟩) ∧ At (fun _ => False) w w':=by
 have hc:=Any.internal_strconv_FormatInt_10 Tryz.laysM246 n h0 h1 w (by
  unfold Lib.TabIs World.var?
  rw [Tryz.laysM246.m17]
  unfold GT dJ at hg
  obtain ⟨_,cs,T,fz,hh,hcs⟩:=hg _ (List.mem_cons_self)
  simp only at hh hcs
  subst hcs
  show Option.bind (some 1) _ = _
  simp only [Option.bind_some,hh]
  rw [Lib.pow10Tab,List.map_map]
  rfl)
 refine hc.mono fun e w' ⟨h2,k,os,h3⟩ => ⟨h2,?_⟩
 subst h3
 exact ZM w k os
def am (n:Int) (w:World) (e:Ending) (w':World):Prop:=e = .returned (.string ⟨(Lib.itoa n).toArray⟩) ∧ At (fun _ => False) w w'
set_option maxRecDepth 100000 in
theorem iO (n:Int) (w:World) (h0:-9223372036854775808 ≤ n) (h1:n ≤ 9223372036854775807) (hg:GT (fun _ => False) w) :
  Calls Tryz.prog 101 #[.int .i64 n,.int .i64 10] w (am n w):=by
 have hF:=nV n w h0 h1 hg
 obtain ⟨y,hy⟩:∃ y:ByteArray,y = ⟨(Lib.itoa n).toArray⟩:=⟨_,rfl⟩
 have R:∀ w2,At (fun _ => False) w w2 → am n w (.returned (.string y)) w2:=fun w2 h => ⟨by rw [hy],h⟩
 have HR:=Lib.hid R
 rw [← hy] at hF
 clear R hy hg h0 h1
 go_enter Tryz.func101,Tryz.ntmps101
 go_wp2_with (go_at_call 134; refine hF.mono ?_; rintro e w2 ⟨rfl,hs2⟩)
 go_ret
 exact HR.out _ hs2
set_option maxRecDepth 100000 in
theorem nZ (n:Int) (w:World) (h0:-9223372036854775808 ≤ n) (h1:n ≤ 9223372036854775807) (hg:GT (fun _ => False) w) :
  Calls Tryz.prog 52 #[.int .i64 n] w (am n w):=by
 have hF:=iO n w h0 h1 hg
 unfold am at hF
 obtain ⟨y,hy⟩:∃ y:ByteArray,y = ⟨(Lib.itoa n).toArray⟩:=⟨_,rfl⟩
 have R:∀ w2,At (fun _ => False) w w2 → am n w (.returned (.string y)) w2:=fun w2 h => ⟨by rw [hy],h⟩
 have HR:=Lib.hid R
 rw [← hy] at hF
 clear R hy hg h0 h1
 go_enter Tryz.func52,Tryz.ntmps52
 go_wp2_with (go_at_call 101; refine hF.mono ?_; rintro e w2 ⟨rfl,hs2⟩)
 go_ret
 exact HR.out _ hs2
theorem qR {s:List UInt8} {v:Int} (h:Lib.parseIntB 64 s = .ok v):-9223372036854775808 ≤ v ∧ v ≤ 9223372036854775807:=by
 unfold Lib.parseIntB at h
 split at h
 ·cases h
 ·split at h
  ·cases h
  ·cases h
  ·rename_i u _
   simp only at h
   split at h
   ·cases h
   ·split at h
    ·cases h
    ·rename_i h1 h2
     have h:=Lib.NumEnd.ok.inj h
     subst h
     simp only [Nat.reduceSub,not_and,Nat.not_le,Nat.not_lt] at h1 h2
     split
     ·rename_i hn
      have:=h2 hn
      omega
     ·rename_i hn
      have:=h1 hn
      omega
set_option maxHeartbeats 2000000 in
set_option maxRecDepth 100000 in
theorem qH (s:List UInt8) (w:World) (hl:s.length ≤ 281474976710656) (hg:GT (fun _ => False) w):Calls Tryz.prog 54 #[.string ⟨s.toArray⟩] w (pL s w):=by
 obtain ⟨d,hd⟩:∃ d:ByteArray,d = ⟨(Lib.trimPrefix s [45]).toArray⟩:=⟨_,rfl⟩
 have hT:Calls Tryz.prog 103 #[.string ⟨s.toArray⟩,.string ⟨#[45]⟩] w fun e w' => e = .returned (.string d) ∧ w' = w:=by
  rw [hd]; exact Any.strings_TrimPrefix Tryz.lays101 ⟨s.toArray⟩ ⟨#[45]⟩ w
 have hsz:(Lib.trimPrefix s [45]).length = d.size:=by rw [hd]; rfl
 clear hd
 obtain ⟨b,hb⟩:∃ b:ByteArray,b = ⟨s.toArray⟩:=⟨_,rfl⟩
 have hP:=ke s w hl hg
 rw [← hb] at hT hP ⊢
 by_cases h1:d.size < 1
 ·have hr:Dl s = (0,false):=by unfold Dl; rw [if_pos (.inl (by omega))]
  have R:pL s w (.returned (.tuple #[.int .i64 0,.bool false])) w:=⟨At.refl _ _,by rw [hr]⟩
  clear hr hsz hP hg hb
  go_enter Tryz.func54,Tryz.ntmps54
  go_wp2_with (go_at_call 103; refine hT.mono ?_; rintro e w' ⟨rfl,rfl⟩)
  go_ret2
  exact R
 ·by_cases h2:18 < d.size
  ·have hr:Dl s = (0,false):=by unfold Dl; rw [if_pos (.inr (by omega))]
   have R:pL s w (.returned (.tuple #[.int .i64 0,.bool false])) w:=⟨At.refl _ _,by rw [hr]⟩
   clear hr hsz hP hg hb
   go_enter Tryz.func54,Tryz.ntmps54
   go_wp2_with (go_at_call 103; refine hT.mono ?_; rintro e w' ⟨rfl,rfl⟩)
   go_ret2
   exact R
  ·have hr1:∀ v,Lib.parseIntB 64 s = .ok v → Dl s = if Lib.itoa v = s then (v,true) else (0,false):=fun v e => by
    unfold Dl; rw [if_neg (by omega),e]
   have hr2:(∀ v,Lib.parseIntB 64 s ≠ .ok v) → Dl s = (0,false):=fun e => by
    unfold Dl; rw [if_neg (by omega)]
    rcases h:Lib.parseIntB 64 s with v | _ | _
    ·exact absurd h (e v)
    ·rfl
    ·rfl
   clear hsz
   have HP:=Lib.hid hP
   have HG:=Lib.hid hg
   clear hP hg
   have HR1:=Lib.hid hr1
   have HR2:=Lib.hid hr2
   have HB:=Lib.hid hb
   clear hr1 hr2 hb
   go_enter Tryz.func54,Tryz.ntmps54
   go_wp2_with (go_at_call 103; refine hT.mono ?_; rintro e w' ⟨rfl,rfl⟩)
   refine HP.out.mono ?_
   rintro e w1 ⟨hs1,⟨v,hp,rfl⟩ | ⟨hp,n,tp,p,rfl⟩⟩
   ·have hv:=qR hp
    have hF:=nZ v w1 hv.1 hv.2 (HG.out.mono (hs1.mono fun _ _ c => c) fun _ _ c => c)
    have hr:=HR1.out v hp
    have HS1:=Lib.hid hs1
    obtain ⟨y,hy⟩:∃ y:ByteArray,y = ⟨(Lib.itoa v).toArray⟩:=⟨_,rfl⟩
    unfold am at hF
    rw [← hy] at hF
    have hyb:(y.toList == b.toList) = decide (Lib.itoa v = s):=by
     have e1:y.toList = Lib.itoa v:=by rw [hy,ZA]
     have e2:b.toList = s:=by rw [HB.out,ZA]
     rw [e1,e2,Bool.eq_iff_iff]; simp
    clear hv hs1 hp hy
    by_cases hc:Lib.itoa v = s
    ·rw [if_pos hc] at hr
     have R:∀ w2,At (fun _ => False) w1 w2 → pL s w' (.returned (.tuple #[.int .i64 v,.bool true])) w2:=fun w2 h => ⟨HS1.out.trans h,by rw [hr]⟩
     have HR:=Lib.hid R
     have hc1:(y.toList == b.toList) = true:=by rw [hyb,decide_eq_true hc]
     clear hr hyb R hc
     go_wp2_with (go_at_call 52; refine hF.mono ?_; rintro e w2 ⟨rfl,hs2⟩)
     go_ret2
     exact HR.out _ hs2
    ·rw [if_neg hc] at hr
     have R:∀ w2,At (fun _ => False) w1 w2 → pL s w' (.returned (.tuple #[.int .i64 0,.bool false])) w2:=fun w2 h => ⟨HS1.out.trans h,by rw [hr]⟩
     have HR:=Lib.hid R
     have hc1:(y.toList == b.toList) = false:=by rw [hyb,decide_eq_false hc]
     clear hr hyb R hc
     go_wp2_with (go_at_call 52; refine hF.mono ?_; rintro e w2 ⟨rfl,hs2⟩)
     go_ret2
     exact HR.out _ hs2
   ·have hr:=HR2.out hp
    have R:pL s w' (.returned (.tuple #[.int .i64 0,.bool false])) w1:=⟨hs1,by rw [hr]⟩
    have HR:=Lib.hid R
    clear hr hp hs1 R
    go_wp2
    go_ret2
    exact HR.out
theorem nK:AU Tryz.prog 54 Ji:=by
 refine cT fun s w hl hg => ?_
 have he:=Go.Proofs.enters_of (P:=Tryz.prog) Tryz.func54 (by kernel_rfl) rfl
 unfold DX
 rw [he]
 exact (qH s w hl hg).mono fun e w' ⟨h1,h2⟩ => ⟨h2,h1⟩
end Go.Proofs.YtfaenphcgfocnaaGreatDoor
