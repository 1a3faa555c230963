/- Typed forms of functions: what their proofs share. No condition. -/
import Derived.Test.YtfaenphcgfocnaaGreatDoorEngZ
import Derived.Test.YtfaenphcgfocnaaGreatDoorEngB
namespace Go.Proofs.YtfaenphcgfocnaaGreatDoor
open Go Go.RowKit
set_option linter.unusedSimpArgs false
set_option linter.unusedVariables false
def PM (k n:Nat):Jx:=⟨.push,k,none,.mov (.v n)⟩
def VS (n k i:Nat):Jx:=⟨.var n,k,none,.mov (.s i)⟩
def PO (k:Nat) (a:Hc):Jx:=⟨.push,k,none,a⟩
def VO (n k:Nat) (a:Hc):Jx:=⟨.var n,k,none,a⟩
def SO (n k:Nat) (a:Hc):Jx:=⟨.slot n,k,none,a⟩
def I6 (n:Int):CA:=.c (.int .i64 n)
attribute [go_sem] PM VS PO VO SO I6
def ck {α:Type} (c:Bool) (k:Option α):Option α:=if c = true then k else none
theorem AF {α:Type} {c:Bool} {k:Option α} {r:α} (h:ck c k = some r):c = true ∧ k = some r:=by
 unfold ck at h; split at h
 ·exact ⟨by assumption,h⟩
 ·cases h
theorem AH {α:Type} (k:Option α):ck true k = k:=id rfl
theorem uK {α:Type} {c:Bool} {k:Option α} (h:c = true):ck c k = k:=by rw [h]; rfl
theorem AC {α β:Type} {x:Option α} {f:α → Option β} {r:β} (h:x.bind f = some r):∃ y,x = some y ∧ f y = some r:=by
 cases x with
 | none => cases h
 | some y => exact ⟨y,rfl,h⟩
theorem AD {β:Type} {c:Bool} {a b:Option β} {r:β} (h:(if c = true then a else b) = some r):(c = true ∧ a = some r) ∨ (c = false ∧ b = some r):=by
 cases c
 ·exact .inr ⟨rfl,h⟩
 ·exact .inl ⟨rfl,h⟩
theorem AB {α:Type} {a b:α} (h:some a = some b):a = b:=Option.some.inj h
theorem Ab {g c:Bool} (h:(!g || c) = true):(g = true ∧ c = true) ∨ g = false:=by cases g <;> cases c <;> simp_all
theorem DA {a b:Bool} (h:(a && b) = false):a = false ∨ (a = true ∧ b = false):=by cases a <;> cases b <;> simp_all
theorem RC {a b:Bool} (h:(a && b) = true):a = true ∧ b = true:=by cases a <;> cases b <;> simp_all
theorem gU {a b:Bool} (h:(a || b) = true):a = true ∨ (a = false ∧ b = true):=by cases a <;> cases b <;> simp_all
theorem or_f {a b:Bool} (h:(a || b) = false):a = false ∧ b = false:=by cases a <;> cases b <;> simp_all
theorem Ha {a:Bool} (h:(!a) = true):a = false:=by cases a <;> simp_all
theorem DT {a:Bool} (h:(!a) = false):a = true:=by cases a <;> simp_all
theorem n1 {b:Bool}:((!b) = true) = (b = false):=by cases b <;> simp
theorem n2 {b:Bool}:((!b) = false) = (b = true):=by cases b <;> simp
theorem n3 {a b:Bool}:((a && b) = true) = (a = true ∧ b = true):=by cases a <;> cases b <;> simp
theorem n4 {a b:Bool}:((a || b) = false) = (a = false ∧ b = false):=by cases a <;> cases b <;> simp
def slE {α:Type} (sz:Nat) (f:α → AV) (xs:List α):AV:=.sl sz (List.map f xs)
attribute [go_sem] slE Option.getD_some
def Km {σ ρ:Type} (step:σ → Option (σ ⊕ ρ)):Nat → σ → Option ρ
 | 0,_ => none
 | n + 1,s => match step s with
  | none => none
  | some (.inl s') => Km step n s'
  | some (.inr r) => some r
open Classical in
noncomputable def AL {σ ρ:Type} (step:σ → Option (σ ⊕ ρ)) (s:σ):Option ρ :=
 if h:∃ n,(Km step n s).isSome = true then Km step (Classical.choose h) s else none
theorem Ou {σ ρ:Type} {step:σ → Option (σ ⊕ ρ)} {r:ρ}:∀ {n m:Nat} {s:σ},n ≤ m → Km step n s = some r → Km step m s = some r
 | 0,_,_,_,h => by cases h
 | n + 1,0,_,hm,_ => by omega
 | n + 1,m + 1,s,hm,h => by
  simp only [Km] at h ⊢
  cases hs:step s with
  | none => rw [hs] at h; cases h
  | some o =>
   rw [hs] at h
   cases o with
   | inl s' => exact Ou (by omega) h
   | inr r' => exact h
theorem Rw {σ ρ:Type} {step:σ → Option (σ ⊕ ρ)} {s:σ} {r:ρ} {n:Nat} (h:Km step n s = some r):AL step s = some r:=by
 have hx:∃ n,(Km step n s).isSome = true:=⟨n,by rw [h]; rfl⟩
 unfold AL
 rw [dif_pos hx]
 obtain ⟨r',hr'⟩:=Option.isSome_iff_exists.1 (Classical.choose_spec hx)
 rw [hr']
 rcases Nat.le_total n (Classical.choose hx) with hle | hle
 ·rw [Ou hle h] at hr'; exact hr'.symm
 ·rw [Ou hle hr'] at h; exact h
theorem Mc {σ ρ:Type} {step:σ → Option (σ ⊕ ρ)} {s:σ} {r:ρ} (h:AL step s = some r):∃ n,Km step n s = some r:=by
 unfold AL at h
 split at h
 ·exact ⟨_,h⟩
 ·cases h
theorem Yy {σ ρ:Type} (step:σ → Option (σ ⊕ ρ)) (s:σ):AL step s = match step s with
  | none => none
  | some (.inl s') => AL step s'
  | some (.inr r) => some r:=by
 apply Option.ext
 intro r
 constructor
 ·intro h
  obtain ⟨n,hn⟩:=Mc h
  cases n with
  | zero => cases hn
  | succ n =>
   simp only [Km] at hn
   cases hs:step s with
   | none => rw [hs] at hn; cases hn
   | some o =>
    rw [hs] at hn
    cases o with
    | inl s' => exact Rw hn
    | inr r' => exact hn
 ·intro h
  cases hs:step s with
  | none => rw [hs] at h; cases h
  | some o =>
   rw [hs] at h
   cases o with
   | inl s' =>
    obtain ⟨n,hn⟩:=Mc h
    exact Rw (n:=n + 1) (by simp only [Km,hs]; exact hn)
   | inr r' => exact Rw (n:=1) (by simp only [Km,hs]; exact h)
theorem DU {σ ρ:Type} {step:σ → Option (σ ⊕ ρ)} {s s':σ} (h:step s = some (.inl s')):AL step s = AL step s':=by rw [Yy,h]
theorem Br {σ ρ:Type} {step:σ → Option (σ ⊕ ρ)} {s:σ} {r:ρ} (h:step s = some (.inr r)):AL step s = some r:=by rw [Yy,h]
theorem JD {σ ρ:Type} {step:σ → Option (σ ⊕ ρ)} (f:Nat → σ) (m:Nat) {r:ρ} (hs:∀ i,i < m → step (f i) = some (.inl (f (i + 1)))) (hd:step (f m) = some (.inr r)):AL step (f 0) = some r:=by
 have:∀ k,k ≤ m → AL step (f (m - k)) = some r:=by
  intro k
  induction k with
  | zero => intro _; exact Br hd
  | succ k ih =>
   intro hk
   rw [DU (hs (m - (k + 1)) (by omega)),show m - (k + 1) + 1 = m - k by omega]
   exact ih (by omega)
 simpa using this m (Nat.le_refl _)
theorem As {σ ρ:Type} {step:σ → Option (σ ⊕ ρ)} {E:σ → St} {R:ρ → EB} {T:Ht} {b:IR} {kp ot rt:List Bool} (hR:∀ y,(R y).1 ≠ .norm)
  (hs:∀ s o,step s = some o → ∃ L0,∀ L,L0 ≤ L → HY kp ot rt (Az T L b (E s)) = Sum.elim (fun s' => ((.norm,E s'):EB)) R o)
  {s:σ} {y:ρ} (h:AL step s = some y):∃ L0,∀ L,L0 ≤ L → Bk (Az T L b) kp ot rt L (E s) = R y:=by
 obtain ⟨n,hn⟩:=Mc h
 have key:∀ n s,Km step n s = some y → ∃ L0,∀ L m,L0 ≤ L → n ≤ m → Bk (Az T L b) kp ot rt m (E s) = R y:=by
  intro n
  induction n with
  | zero => intro s h; cases h
  | succ n ih =>
   intro s h
   simp only [Km] at h
   cases ho:step s with
   | none => rw [ho] at h; cases h
   | some o =>
    rw [ho] at h
    obtain ⟨L1,h1⟩:=hs s o ho
    cases o with
    | inl s' =>
     obtain ⟨L2,h2⟩:=ih s' h
     refine ⟨L1 + L2,fun L m hL hm => ?_⟩
     cases m with
     | zero => omega
     | succ m =>
      rw [Zc,h1 L (by omega)]
      exact h2 L m (by omega) (by omega)
    | inr r =>
     cases h
     refine ⟨L1,fun L m hL hm => ?_⟩
     cases m with
     | zero => omega
     | succ m =>
      rw [Zc,h1 L hL]
      have:=hR y
      simp only [Sum.elim_inr]
      revert this
      generalize R y = q
      obtain ⟨e,s'⟩:=q
      cases e
      ·intro c; exact absurd rfl c
      ·intro _; rfl
      ·intro _; rfl
 obtain ⟨L0,h0⟩:=key n s hn
 exact ⟨L0 + n,fun L hL => h0 L L (by omega) (by omega)⟩
theorem Bx {α:Type} {f:α → AV} (h:∀ x,jn (f x) = true) (xs:List α):(List.map f xs).all jn = true:=by
 induction xs <;> simp_all
theorem FC {l:List (Nat × Ax)} {fn:CI} {modes:List Md} {args:List AV} {r:AV} {outs:List AV} (h:∃ L0,∀ L,L0 ≤ L → Ky (AR l) L fn modes args = ⟨true,r,outs⟩):(OE l fn modes).F args = ⟨true,r,outs⟩:=by
 obtain ⟨L,h⟩:=h
 exact AGO L (h L (Nat.le_refl _))
theorem Ay {l:List (Nat × Ax)} {fn:CI} {modes:List Md} {args:List AV} {r:AV} {outs:List AV} (hf:Fo r = true) (h:∃ L0,∀ L,L0 ≤ L → Ky (AR l) L fn modes args = ⟨true,r,outs⟩):(Di l fn modes).F args = ⟨true,r,outs⟩:=by
 obtain ⟨L,h⟩:=h
 exact AGP L (h L (Nat.le_refl _)) hf
open Classical in
noncomputable def tyC {X Y:Type} [Inhabited Y] (c:Ax) (ea:X → List AV) (g:X → Option Y) (er:Y → AV) (eo:X → Y → List AV):Ax :=
 ⟨c.modes,c.flat,fun args => if h:∃ x,ea x = args then ⟨(g (Classical.choose h)).isSome,er ((g (Classical.choose h)).getD default),eo (Classical.choose h) ((g (Classical.choose h)).getD default)⟩ else Rs.bad⟩
def MY (n:Int):UInt8:=UInt8.ofNat n.toNat
theorem wrap_i64 {n:Int} (h1:-9223372036854775808 ≤ n) (h2:n ≤ 9223372036854775807):IntKind.i64.wrap n = n:=by
 unfold IntKind.wrap IntKind.bits; simp [IntKind.signed]; omega
theorem fq (e:Int):0 ≤ IntKind.u8.wrap e:=by
 unfold IntKind.wrap IntKind.bits; simp [IntKind.signed]; omega
theorem ft (e:Int):IntKind.u8.wrap e < 256:=by
 unfold IntKind.wrap IntKind.bits; simp [IntKind.signed]; omega
theorem vO {n:Int} (h1:0 ≤ n) (h2:n < 256):IntKind.u8.wrap n = n:=by
 unfold IntKind.wrap IntKind.bits; simp [IntKind.signed]; omega
theorem yd (c:UInt8):(c.toNat:Int) < 256:=by have:=c.toNat_lt; omega
theorem kI (e:Int):(((UInt8.ofNat (IntKind.u8.wrap e).toNat).toNat:Nat):Int) = IntKind.u8.wrap e:=by
 have h1:=fq e
 have h2:=ft e
 rw [UInt8.toNat_ofNat']
 omega
theorem yJ (c:UInt8):IntKind.i64.wrap (c.toNat:Int) = (c.toNat:Int):=wrap_i64 (by omega) (by have:=yd c; omega)
theorem MA (xs:List UInt8):(xs.map Co).all GB = true:=by induction xs <;> simp_all [Co,GB]
theorem eN (b:Nat) (xs:List UInt8):(List.take b (xs.map Co)).all GB = true:=by rw [← List.map_take]; exact MA _
theorem eO (a:Nat) (xs:List UInt8):(List.drop a (xs.map Co)).all GB = true:=by rw [← List.map_drop]; exact MA _
theorem nB (a b:Nat) (xs:List UInt8):(List.drop a (List.take b (xs.map Co))).all GB = true:=by rw [← List.map_take,← List.map_drop]; exact MA _
theorem ij (xs:List UInt8):(xs.map Co).map MM = xs:=by
 induction xs with
 | nil => rfl
 | cons a r ih => simp only [List.map_cons,ih,Co,MM,Int.toNat_natCast,UInt8.ofNat_toNat]
theorem AK {α:Type} [Inhabited α] (f:α → AV) (xs:List α) {i:Nat} (h:i < xs.length):(xs.map f).getD i .any = f (xs.getD i default):=nS f xs default h
theorem Au {n:Int} {m:Nat} (h:BA n m = true):n.toNat < m:=by
 simp only [BA,Bool.and_eq_true,decide_eq_true_eq] at h; omega
theorem AAV (x:AV) (q:Bool):XK false x (.bool q) = .bool q:=by cases x <;> rfl
theorem AAU (y:AV) (p:Bool):XK true (.bool p) y = .bool p:=by cases y <;> rfl
theorem nR {α:Type} {xs:List α} {i:Nat} {x d:α} (h:i < xs.length):(xs.set i x).getD i d = x:=by
 rw [List.getD_eq_getElem?_getD,List.getElem?_set_self h]; rfl
attribute [go_sem] nR List.set_set Int.toNat_natCast UInt8.ofNat_toNat MY kI yJ MA eN eO nB ij List.map_append List.map_set List.map_take List.map_drop List.all_append Sum.elim_inl Sum.elim_inr AAV AAU St.mk.injEq Prod.mk.injEq List.map_replicate UInt8.reduceToNat Int.cast_ofNat_Int Bool.or_not_self Bool.not_or_self
end Go.Proofs.YtfaenphcgfocnaaGreatDoor
