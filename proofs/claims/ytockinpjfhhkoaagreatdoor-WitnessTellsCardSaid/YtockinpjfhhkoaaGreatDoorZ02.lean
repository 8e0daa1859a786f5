/- Layer 16 on expressions, walked: whether something holds of an expression and of all its parts, whatever the function value is that is asked. -/
import Derived.Test.YtockinpjfhhkoaaGreatDoorZ01
import Derived.Test.YtockinpjfhhkoaaGreatDoorZ00
set_option maxRecDepth 100000
set_option maxHeartbeats 16000000
open List renaming getElem?_cons_zero → J7, getElem?_toArray → J9
open Go.Lib renaming cell_of_heap → Jc, hid → Jh
namespace Go.Proofs.YtockinpjfhhkoaaGreatDoor
open Go.RowKit
theorem z6h (k : Int) (a1 : Option Addr) (l1 c1 : Nat) (a : Option Addr) (l c : Nat) (lo hi : Int) (ls hs op : Bool) (w : World) :
 Calls Tryz.prog 70 #[.agg #[.int .u8 k,.slice a1 l1 c1,.slice a l c,.int .i64 lo,.bool ls,.int .i64 hi,.bool hs,.bool op]] w fun e w' => e = .returned (.slice a l c) ∧ Below w.heap.size w w':=by
 go_enter Tryz.func70,Tryz.ntmps70
 go_wp2_with fail
 all_goals go_ret
 all_goals exact ⟨rfl,(Below.refl _ _).alloc (Nat.le_refl _) _⟩
def FnX {m : Nat} (w : World) (n : Nat) (K : Nat) (caps : Array Value) (g : XT m n → Bool) : Prop :=
 Ent K ∧ ∀ (t : XT m n) (v : Value) (w' : World),Below w.heap.size w w' → XRep w' w'.heap.size m n t v → Calls Tryz.prog K (#[v] ++ caps) w' fun e w'' => e = .returned (.bool (g t)) ∧ Below w'.heap.size w' w''
theorem FnX.up {m : Nat} {w w1 : World} {n K : Nat} {caps : Array Value} {g : XT m n → Bool} (h : FnX w n K caps g) (hb : Below w.heap.size w w1) : FnX w1 n K caps g :=
 ⟨h.1,fun t v w' hb' hr => h.2 t v w' (hb.trans (hb'.mono hb.size)) hr⟩
theorem index69_any {m : Nat} (n : Nat) (l : List (XT m n)) (a : Option Addr) (c K : Nat) (caps : Array Value) (g : XT m n → Bool) (w : World) (hR : XRow w w.heap.size m n a l) (hG : FnX w n K caps g) :
 Calls Tryz.prog 207 #[.slice a l.length c,.func (.func K) #[] caps] w fun e w' => (∃ r : Int,e = .returned (.int .i64 r) ∧ Hid (decide (0 ≤ r) = l.any g)) ∧ Below w.heap.size w w':=by
 have hK:=hG.1
 unfold Ent at hK
 have HG:=Jh hG
 have HR:=Jh hR
 have hm:=hR.1
 clear hG hR
 go_enter Tryz.func207,Tryz.ntmps207
 go_wp2_with fail
 go_loopw [8] (fun i wr => ∃ j : Nat,j ≤ l.length ∧ i = .int .i64 j ∧ Hid ((l.take j).any g = false) ∧ Below w.heap.size w wr) (fun i _ => l.length - (intOf i).toNat)
 case atStart => exact ⟨0,Nat.zero_le _,rfl,by simp [Hid],Below.refl _ _⟩
 case round =>
  obtain ⟨j,hj,rfl,HT,hbw⟩:=hrel
  have HB:=Jh hbw
  by_cases hlt : j < l.length
  ·obtain ⟨b,off,k,a1,l1,cc1,a2,l2,cc2,lo,ls,hi,hs,op,rfl,hbl,c0,c1,c2,c3,c4,c5,c6,c7,hr⟩:=(HR.out.up hbw (Nat.le_refl _)).at j hlt
   have hz:=hbw.size
   have hbl' : b < wr.heap.size:=by omega
   have HC:=Jh (HG.out.2 l[j] _ wr hbw (hr.up (Below.refl _ _) hz))
   have HS:=Jh (any_take g l j hlt HT.out)
   have HA:=Jh (any_of_at g l j hlt)
   clear hr hbw
   go_wp2_with fail
   refine HC.out.mono ?_
   rintro e w1 ⟨rfl,hb1⟩
   have hbz:=Jh (HB.out.trans (hb1.mono hz))
   clear hb1
   cases hg : g l[j] with
   | true =>
    have HG1:=Jh hg
    clear hg
    go_wp2_with fail
    all_goals go_ret
    all_goals exact ⟨⟨_,rfl,by rw [Hid,HA.out HG1.out]; simp⟩,hbz.out⟩
   | false =>
    have HG1:=Jh hg
    clear hg
    go_wp2_with fail
    go_roundw
    case rel => exact ⟨j + 1,by omega,by go_num,by rw [Hid,HS.out,HG1.out],hbz.out⟩
    case measure => simp [intOf]; omega
  ·have hje : j = l.length:=by omega
   have HE : Hid (l.any g = false):=by rw [Hid]; have:=HT.out; rw [hje,List.take_length] at this; exact this
   clear HT
   go_wp2_with fail
   all_goals go_ret
   all_goals exact ⟨⟨_,rfl,by rw [Hid,HE.out]; rfl⟩,HB.out⟩
theorem contains54_any {m : Nat} (n : Nat) (l : List (XT m n)) (a : Option Addr) (c K : Nat) (caps : Array Value) (g : XT m n → Bool) (w : World) (hR : XRow w w.heap.size m n a l) (hG : FnX w n K caps g) :
 Calls Tryz.prog 138 #[.slice a l.length c,.func (.func K) #[] caps] w fun e w' => e = .returned (.bool (l.any g)) ∧ Below w.heap.size w w':=by
 have HI:=Jh (index69_any n l a c K caps g w hR hG)
 clear hR hG
 go_enter Tryz.func138,Tryz.ntmps138
 go_wp2_with fail
 refine HI.out.mono ?_
 rintro e w1 ⟨⟨r,rfl,hr⟩,hb1⟩
 go_wp2_with fail
 all_goals go_ret
 all_goals exact ⟨z01 (by rw [← hr.out]),hb1⟩
def SoX {m : Nat} (w : World) (K : Nat) (caps : Array Value) (so : Int → List (FT m) → Nat → Spn → Bool) : Prop:=∀ n,FnX w (n + 1) K caps fun t => so t.1 t.2.1 t.2.2.1.length t.2.2.2
theorem SoX.up {m : Nat} {w w1 : World} {K : Nat} {caps : Array Value} {so : Int → List (FT m) → Nat → Spn → Bool} (h : SoX w K caps so) (hb : Below w.heap.size w w1) : SoX w1 K caps so:=fun n => (h n).up hb
theorem allX_succ {m : Nat} (so : Int → List (FT m) → Nat → Spn → Bool) (n : Nat) (k : Int) (is : List (FT m)) (of : List (XT m n)) (lo : Int) (ls : Bool) (hi : Int) (hs op : Bool) : allX so (n + 1) (k,is,of,⟨lo,ls,hi,hs,op⟩) = (so k is of.length ⟨lo,ls,hi,hs,op⟩ && of.all (allX so n)):=rfl
def
 AllX {m : Nat} (so : Int → List (FT m) → Nat → Spn → Bool) (K : Nat) (caps : Array Value) (n : Nat) : Prop:=∀ (t : XT m n) (v : Value) (w : World),XRep w w.heap.size m n t v → SoX w K caps so →
 Calls Tryz.prog 69 #[v,.func (.func 70) #[] #[],.func (.func K) #[] caps] w fun e w' => e = .returned (.bool (allX so n t)) ∧ Below w.heap.size w w'
theorem clo55_any {m : Nat} (so : Int → List (FT m) → Nat → Spn → Bool) (K : Nat) (caps : Array Value) (n : Nat) (ih : AllX so K caps n) (b1 b2 : Nat) (t : XT m n) (v : Value) (w : World) (h : XRep w w.heap.size m n t v) (hso' : SoX w K caps so)
 (h1 : b1 < w.heap.size) (h2 : b2 < w.heap.size) (c1 : w.cell? ⟨b1,0,none⟩ = some (.func (.func 70) #[] #[])) (c2 : w.cell? ⟨b2,0,none⟩ = some (.func (.func K) #[] caps)) :
 Calls Tryz.prog 139 #[v,.pointer (some ⟨b1,0,none⟩),.pointer (some ⟨b2,0,none⟩)] w fun e w' => e = .returned (.bool (!allX so n t)) ∧ Below w.heap.size w w':=by
 obtain ⟨k,a1,l1,c1,a,l,c,lo,ls,hi,hs,op,rfl⟩:=h.shape
 have hb : Below w.heap.size w (w.alloc (.cells #[.int .u8 k,.slice a1 l1 c1,.slice a l c,.int .i64 lo,.bool ls,.int .i64 hi,.bool hs,.bool op] 47)):=(Below.refl _ w).alloc (Nat.le_refl _) _
 have HI:=Jh (ih t _ (w.alloc (.cells #[.int .u8 k,.slice a1 l1 c1,.slice a l c,.int .i64 lo,.bool ls,.int .i64 hi,.bool hs,.bool op] 47)) (h.up hb (by simp)) (hso'.up hb))
 have HB:=Jh hb
 clear h hso' ih hb
 go_enter Tryz.func139,Tryz.ntmps139
 go_wp2_with fail
 refine HI.out.mono ?_
 rintro e w1 ⟨rfl,hb1⟩
 have HB1:=Jh (HB.out.trans (hb1.mono (by simp)))
 clear hb1
 go_wp2_with fail
 all_goals go_ret
 all_goals exact ⟨rfl,HB1.out⟩
theorem z71 {m : Nat} (so : Int → List (FT m) → Nat → Spn → Bool) (K : Nat) (caps : Array Value) (n : Nat) : AllX so K caps n:=by
 induction n with
 | zero => intro t v w h; exact h.elim
 | succ n ih =>
  intro t v w h hso'
  obtain ⟨k,is,of,lo,ls,hi,hs,op⟩:=t
  have hfr:=h
  obtain ⟨a1,c1,a,c,rfl,hR1,hR⟩:=h
  dsimp only at hR hfr ⊢
  clear hR1
  have hmf : ∀ (fn : Fn) (first cap : Array Value) (w : World),(Instr.makeFunc fn first cap).run Tryz.prog w = .ok (.func fn first cap) w:=fun _ _ _ _ => rfl
  have hb3 : Below w.heap.size w (((w.alloc (.cells #[.int .u8 k,.slice a1 is.length c1,.slice a of.length c,.int .i64 lo,.bool ls,.int .i64 hi,.bool hs,.bool op] 47)).alloc (.cells #[.func (.func 70) #[] #[]] 129)).alloc (.cells #[.func (.func K) #[] caps] 57)) :=
   (((Below.refl _ w).alloc (Nat.le_refl _) _).alloc (by simp) _).alloc (by simp; omega) _
  have hK:=(hso' n).1
  unfold Ent at hK
  have HSO:=Jh ((hso' n).2 ⟨k,is,of,lo,ls,hi,hs,op⟩ (.agg #[.int .u8 k,.slice a1 is.length c1,.slice a of.length c,.int .i64 lo,.bool ls,.int .i64 hi,.bool hs,.bool op]) _ hb3 (hfr.up hb3 (by simp; omega)))
  have HS:=Jh hso'
  have HR:=Jh hR
  have IH:=Jh ih
  have HB3 : Hid (∀ w1,Below (((w.alloc (.cells #[.int .u8 k,.slice a1 is.length c1,.slice a of.length c,.int .i64 lo,.bool ls,.int .i64 hi,.bool hs,.bool op] 47)).alloc (.cells #[.func (.func 70) #[] #[]] 129)).alloc (.cells #[.func (.func K) #[] caps] 57)).heap.size (((w.alloc (.cells #[.int .u8 k,.slice a1 is.length c1,.slice a of.length c,.int .i64 lo,.bool ls,.int .i64 hi,.bool hs,.bool op] 47)).alloc (.cells #[.func (.func 70) #[] #[]] 129)).alloc (.cells #[.func (.func K) #[] caps] 57)) w1 → _):=fun w1 hb => blocks3 hb
  clear hso' hfr hR hb3 ih
  cases hso : so k is of.length ⟨lo,ls,hi,hs,op⟩ with
  | false =>
   have HO : Hid (allX so (n + 1) (k,is,of,⟨lo,ls,hi,hs,op⟩) = false):=by rw [Hid,allX_succ,hso]; rfl
   simp only [hso] at HSO
   clear hso
   go_enter Tryz.func69,Tryz.ntmps69
   go_wp2_with fail
   refine HSO.out.mono ?_
   rintro e w1 ⟨rfl,hb1⟩
   obtain ⟨d1,d2,d3,hbw,hsz⟩:=HB3.out w1 hb1
   have HBW:=Jh hbw
   clear hbw hb1
   go_wp2_with fail
   all_goals go_ret
   all_goals exact ⟨z01 (by rw [HO.out]),HBW.out⟩
  | true =>
   have HO : Hid (allX so (n + 1) (k,is,of,⟨lo,ls,hi,hs,op⟩) = !(of.any fun x => !allX so n x)):=by
    rw [Hid,allX_succ,hso,Bool.true_and,List.all_eq_not_any_not]
   simp only [hso] at HSO
   clear hso
   go_enter Tryz.func69,Tryz.ntmps69
   go_wp2_with fail
   refine HSO.out.mono ?_
   rintro e w1 ⟨rfl,hb1⟩
   obtain ⟨d1,d2,d3,hbw,hsz⟩:=HB3.out w1 hb1
   have HBW:=Jh hbw
   clear hbw hb1
   obtain ⟨x1,x2,x3,y3,y4,y5,y6,y7⟩:=cc8 d1
   have x4:=Jc d2 0
   have x5:=Jc d3 0
   simp only [J9,J7] at x4 x5
   go_wp2_with fail
   refine (z6h k a1 is.length c1 a of.length c lo hi ls hs op w1).mono ?_
   rintro e w2 ⟨rfl,hb2⟩
   have hbw2 : Below w.heap.size w w2:=HBW.out.trans (hb2.mono (by omega))
   have HCON:=Jh (contains54_any n of a c 139 #[.pointer (some ⟨w.heap.size + 1,0,none⟩),.pointer (some ⟨w.heap.size + 2,0,none⟩)] (fun x => !allX so n x) w2 (XRow.up HR.out hbw2 hbw2.size)
    ⟨z2g Tryz.func139 (by kernel_rfl) (by kernel_rfl),fun t v w' hb' hr => by
     have hz2:=hb2.size
     have hz':=hb'.size
     refine clo55_any so K caps n IH.out (w.heap.size + 1) (w.heap.size + 2) t v w' hr (SoX.up HS.out (hbw2.trans (hb'.mono hbw2.size))) (by omega) (by omega) ?_ ?_
     ·exact (hb'.cell (p:=⟨w.heap.size + 1,0,none⟩) (by show w.heap.size + 1 < _; omega)).trans ((hb2.cell (p:=⟨w.heap.size + 1,0,none⟩) (by show w.heap.size + 1 < _; omega)).trans (Jc d2 0))
     ·exact (hb'.cell (p:=⟨w.heap.size + 2,0,none⟩) (by show w.heap.size + 2 < _; omega)).trans ((hb2.cell (p:=⟨w.heap.size + 2,0,none⟩) (by show w.heap.size + 2 < _; omega)).trans (Jc d3 0))⟩)
   have HBW2:=Jh hbw2
   clear hbw2 hb2
   go_wp2_with fail
   refine HCON.out.mono ?_
   rintro e w3 ⟨rfl,hb3⟩
   have HBW3:=Jh (HBW2.out.trans (hb3.mono HBW2.out.size))
   clear hb3
   go_wp2_with fail
   all_goals go_ret
   all_goals exact ⟨z01 (by rw [HO.out]),HBW3.out⟩
open Go.RowKit
theorem z0u {k : IntKind} {a b : Int} (h : a = b) : Ending.returned (.int k a) = .returned (.int k b):=by rw [h]
theorem below27_any (n : Int) (w : World) : Calls Tryz.prog 142 #[.int .i64 n] w fun e w' => e = .returned (.bool (z2u n)) ∧ w' = w:=by
 go_enter Tryz.func142,Tryz.ntmps142
 go_wp2
 all_goals go_ret
 all_goals (refine z2b ?_; unfold z2u; rw [Bool.eq_iff_iff]; simp_all; try omega)
def Spn.val (i : Spn) : Value:=.agg #[.int .i64 i.low,.bool i.ls,.int .i64 i.high,.bool i.hs,.bool i.op]
theorem z4m (i : Spn) (w : World) : Calls Tryz.prog 76 #[i.val] w fun e w' => e = .returned (.int .i64 (ivR i)) ∧ Below w.heap.size w w':=by
 obtain ⟨lo,ls,hi,hs,op⟩:=i
 unfold Spn.val
 dsimp only
 go_enter Tryz.func76,Tryz.ntmps76
 go_wp2_with (go_at_call 142; refine (below27_any _ _).mono ?_; rintro e w' ⟨rfl,rfl⟩)
 all_goals go_ret
 all_goals (refine ⟨?_,(Below.refl _ _).alloc (Nat.le_refl _) _⟩; refine z0u ?_; unfold ivR; dsimp only; simp_all; try omega)
open Go.RowKit
def idxN (s : ByteArray) (l : List ByteArray) : Int:=match l.findIdx? (fun x => s.toList == x.toList) with
 | some k => k
 | none => -1
theorem idxN_at (s : ByteArray) (l : List ByteArray) (j : Nat) (h : j < l.length) (h0 : ∀ i (hi : i < l.length),i < j → (s.toList == (l[i]).toList) = false) (h1 : (s.toList == (l[j]).toList) = true) : idxN s l = j:=by
 have : l.findIdx? (fun x => s.toList == x.toList) = some j:=by
  rw [List.findIdx?_eq_some_iff_getElem]
  exact ⟨h,h1,fun i hi => by rw [h0 i (by omega) hi]; simp⟩
 unfold idxN; rw [this]
theorem idxN_none (s : ByteArray) (l : List ByteArray) (h0 : ∀ i (hi : i < l.length),i < l.length → (s.toList == (l[i]).toList) = false) : idxN s l = -1:=by
 have : l.findIdx? (fun x => s.toList == x.toList) = none:=by
  rw [List.findIdx?_eq_none_iff]
  intro x hx
  obtain ⟨i,hi,rfl⟩:=List.getElem_of_mem hx
  exact h0 i hi hi
 unfold idxN; rw [this]
theorem idxN_in (s : ByteArray) (l : List ByteArray) : decide (0 ≤ idxN s l) = inN s l:=by
 unfold idxN inN
 cases h : l.findIdx? (fun x => s.toList == x.toList) with
 | none =>
  rw [List.findIdx?_eq_none_iff] at h
  have : l.any (fun x => s.toList == x.toList) = false:=by
   rw [List.any_eq_false]; intro x hx; rw [h x hx]; simp
  rw [this]; rfl
 | some k =>
  rw [List.findIdx?_eq_some_iff_getElem] at h
  obtain ⟨hk,hp,_⟩:=h
  have : l.any (fun x => s.toList == x.toList) = true:=List.any_eq_true.2 ⟨_,List.getElem_mem hk,hp⟩
  rw [this]; simp
theorem z6p (l : List ByteArray) (v : Value) (s : ByteArray) (w : World) (hn : NRep w w.heap.size v l) :
 Calls Tryz.prog 151 #[v,.string s] w fun e w' => e = .returned (.int .i64 (idxN s l)) ∧ w' = w:=by
 obtain ⟨a,c,rfl,hm,hn⟩:=hn
 have HA:=Jh (idxN_at s l)
 have HN:=Jh (idxN_none s l)
 go_enter Tryz.func151,Tryz.ntmps151
 go_wp2_with fail
 go_loopw [8] (fun i wr => ∃ j : Nat,j ≤ l.length ∧ i = .int .i64 j ∧ Hid (∀ i (hi : i < l.length),i < j → (s.toList == (l[i]).toList) = false) ∧ wr = w) (fun i _ => l.length - (intOf i).toNat)
 case atStart => exact ⟨0,Nat.zero_le _,rfl,fun _ _ h => absurd h (by omega),rfl⟩
 case round =>
  obtain ⟨j,hj,rfl,HT,rfl⟩:=hrel
  by_cases hlt : j < l.length
  ·rcases hn with hn | ⟨b,off,rfl,hb,hc⟩
   ·rw [hn] at hlt; exact absurd hlt (by simp)
   ·have c0:=hc j hlt
    have HC:=Jh hc
    clear hc
    have HAj:=Jh (HA.out j hlt HT.out)
    cases q : (s.toList == (l[j]).toList) with
    | true =>
     have HR:=Jh (HAj.out q)
     go_wp2_with fail
     all_goals go_ret
     all_goals exact ⟨z0u (by rw [HR.out]),rfl⟩
    | false =>
     have HR:=Jh q
     go_wp2_with fail
     go_roundw
     case rel => exact ⟨j + 1,by omega,by go_num,fun i hi hij => by
      rcases Nat.lt_or_ge i j with h | h
      ·exact HT.out i hi h
      ·obtain rfl : i = j:=by omega
       exact HR.out,trivial⟩
     case measure => simp [intOf]; omega
  ·have hje : j = l.length:=by omega
   have HR:=Jh (HN.out (fun i hi _ => HT.out i hi (by omega)))
   clear HT hn
   go_wp2_with fail
   all_goals go_ret
   all_goals exact ⟨z0u (by rw [HR.out]),rfl⟩
theorem contains53_any (l : List ByteArray) (v : Value) (s : ByteArray) (w : World) (hn : NRep w w.heap.size v l) :
 Calls Tryz.prog 134 #[v,.string s] w fun e w' => e = .returned (.bool (inN s l)) ∧ w' = w:=by
 have HI:=Jh (z6p l v s w hn)
 have HE:=Jh (idxN_in s l)
 obtain ⟨a,c,rfl,hm,hn⟩:=hn
 clear hn
 go_enter Tryz.func134,Tryz.ntmps134
 go_wp2_with fail
 refine HI.out.mono ?_
 rintro e w1 ⟨rfl,rfl⟩
 go_wp2_with fail
 all_goals go_ret
 all_goals exact ⟨z01 HE.out,rfl⟩
theorem so52 (names : List ByteArray) (nv : Value) (b : Nat) (w : World) (hb : b < w.heap.size) (hc : w.cell? ⟨b,0,none⟩ = some nv) (hn : NRep w w.heap.size nv names) :
 SoF w 133 #[.pointer (some ⟨b,0,none⟩)] (z0g names):=by
 intro n
 refine ⟨z2g Tryz.func133 (by kernel_rfl) (by kernel_rfl),fun t v w' hb' hr => ?_⟩
 obtain ⟨k,s,of⟩:=t
 obtain ⟨a,c,rfl,_⟩:=hr
 dsimp only
 have hz:=hb'.size
 have hb1 : Below w.heap.size w (w'.alloc (.cells #[.int .u8 k,.string s,.slice a of.length c] 25)):=hb'.alloc hz _
 have HC:=Jh (contains53_any names nv s _ (hn.up hb1 hb1.size))
 have c0 : w'.cell? ⟨b,0,none⟩ = some nv:=(hb'.cell (p:=⟨b,0,none⟩) hb).trans hc
 have hbz : b < w'.heap.size:=by omega
 obtain ⟨na,nc,rfl,_⟩:=hn
 clear hb1 hc
 have hD : z0g names k s of.length = (k != 3 || inN s names):=rfl
 have HB : Hid (∀ o,Below w'.heap.size w' (w'.alloc o)):=fun o => (Below.refl _ _).alloc (Nat.le_refl _) o
 rw [hD]
 clear hD hb'
 show Calls Tryz.prog 133 #[_,_] w' _
 cases q : k != 3 with
 | true =>
  go_enter Tryz.func133,Tryz.ntmps133
  go_wp2_with fail
  all_goals go_ret
  all_goals exact ⟨rfl,HB.out _⟩
 | false =>
  go_enter Tryz.func133,Tryz.ntmps133
  go_wp2_with fail
  refine HC.out.mono ?_
  rintro e w1 ⟨rfl,rfl⟩
  go_wp2_with fail
  all_goals go_ret
  all_goals exact ⟨rfl,HB.out _⟩
theorem z3u (names : List ByteArray) (nv : Value) (b : Nat) (n : Nat) (t : FT n) (v : Value) (w : World) (hb : b < w.heap.size) (hc : w.cell? ⟨b,0,none⟩ = some nv) (hn : NRep w w.heap.size nv names) (hr : FRep w w.heap.size n t v) :
 Calls Tryz.prog 130 #[v,.pointer (some ⟨b,0,none⟩)] w fun e w' => e = .returned (.bool (allF (z0g names) n t)) ∧ Below w.heap.size w w':=by
 obtain ⟨k,s,a,l,c,rfl⟩:=hr.shape
 have hmf : ∀ (fn : Fn) (first cap : Array Value) (w : World),(Instr.makeFunc fn first cap).run Tryz.prog w = .ok (.func fn first cap) w:=fun _ _ _ _ => rfl
 have hbw : Below w.heap.size w (w.alloc (.cells #[.int .u8 k,.string s,.slice a l c] 25)):=(Below.refl _ _).alloc (Nat.le_refl _) _
 have HA:=Jh (z4t (z0g names) 133 #[.pointer (some ⟨b,0,none⟩)] n t _ _ (hr.up hbw hbw.size) ((so52 names nv b w hb hc hn).up hbw))
 have HB:=Jh hbw
 clear hbw hn hr hc
 go_enter Tryz.func130,Tryz.ntmps130
 go_wp2_with fail
 refine HA.out.mono ?_
 rintro e w1 ⟨rfl,hb1⟩
 have HB1:=Jh (HB.out.trans (hb1.mono HB.out.size))
 clear hb1
 go_wp2_with fail
 all_goals go_ret
 all_goals exact ⟨rfl,HB1.out⟩
theorem z2p (a : Option Addr) (l c : Nat) (w : World) :
 Calls Tryz.prog 67 #[.slice a l c] w fun e w' => e = .returned (.func (.func 130) #[] #[.pointer (some ⟨w.heap.size,0,none⟩)]) ∧ w' = w.alloc (.cells #[.slice a l c] 22):=by
 have hmf : ∀ (fn : Fn) (first cap : Array Value) (w : World),(Instr.makeFunc fn first cap).run Tryz.prog w = .ok (.func fn first cap) w:=fun _ _ _ _ => rfl
 go_enter Tryz.func67,Tryz.ntmps67
 go_wp2_with fail
 all_goals go_ret
 all_goals exact ⟨rfl,rfl⟩
end Go.Proofs.YtockinpjfhhkoaaGreatDoor
namespace Go.Proofs.YtockinpjfhhkoaaGreatDoor
open Go.RowKit
def nF : (n : Nat) → FT n → Nat
 | 0,_ => 1
 | n + 1,t => 1 + (t.2.2.map (nF n)).sum
def tF : (n : Nat) → FT n → Nat
 | 0,_ => 1
 | n + 1,t => 1 + t.2.1.size + (t.2.2.map (tF n)).sum
def nX {m : Nat} : (n : Nat) → XT m n → Nat
 | 0,_ => 1
 | n + 1,t => (if t.1 = 1 then (t.2.1.map (nF m)).sum else 1) + (t.2.2.1.map (nX n)).sum
def tX {m : Nat} : (n : Nat) → XT m n → Nat
 | 0,_ => 1
 | n + 1,t => 1 + (t.2.1.map (tF m)).sum + (t.2.2.1.map (tX n)).sum
theorem sum_le {α : Type} (f g : α → Nat) : ∀ l : List α,(∀ x ∈ l,f x ≤ g x) → (l.map f).sum ≤ (l.map g).sum
 | [],_ => by simp
 | x :: r,h => by
  have h1:=h x (by simp)
  have h2:=sum_le f g r (fun y hy => h y (by simp [hy]))
  simp only [List.map_cons,List.sum_cons]; omega
theorem z4k {α : Type} (f : α → Nat) : ∀ (l : List α) (x : α),x ∈ l → f x ≤ (l.map f).sum
 | y :: r,x,h => by
  simp only [List.map_cons,List.sum_cons]
  rcases List.mem_cons.1 h with rfl | h
  ·omega
  ·have:=z4k f r x h; omega
theorem szL_le {α : Type} (f : α → Int → Int) (g : α → Nat) (most : Int) (hm : 0 ≤ most ∧ most ≤ 2000) : ∀ (l : List α) (n : Int),
 (∀ x ∈ l,∀ k,0 ≤ k → k ≤ 2000 → f x k ≤ k + 281474976710657 ∧ 1 ≤ f x k ∧ (f x k ≤ k → f x k = g x)) → 0 ≤ n → n ≤ most + 281474976710657 →
 szL f most l n ≤ most + 281474976710657 ∧ n ≤ szL f most l n ∧ (szL f most l n ≤ most → szL f most l n = n + (l.map g).sum)
 | [],n,_,h0,h1 => ⟨h1,by simp [szL],by simp [szL]⟩
 | x :: r,n,H,h0,h1 => by
  rw [szL]
  split
  ·rename_i hn
   have hw : wrap64 (most - n) = most - n:=by unfold wrap64; omega
   obtain ⟨a1,a2,a3⟩:=H x (by simp) (most - n) (by omega) (by omega)
   rw [hw]
   have hw2 : wrap64 (n + f x (most - n)) = n + f x (most - n):=by unfold wrap64; omega
   rw [hw2]
   obtain ⟨b1,b2,b3⟩:=szL_le f g most hm r (n + f x (most - n)) (fun y hy => H y (by simp [hy])) (by omega) (by omega)
   refine ⟨b1,by omega,fun h => ?_⟩
   rw [b3 h,a3 (by omega)]
   simp only [List.map_cons,List.sum_cons]; push_cast; omega
  ·exact ⟨h1,by omega,fun h => absurd h (by omega)⟩
theorem sizeF_le : ∀ (n : Nat) (t : FT n),bndF n t → ∀ k : Int,0 ≤ k → k ≤ 2000 → z1x n t k ≤ k + 281474976710657 ∧ 1 ≤ z1x n t k ∧ (z1x n t k ≤ k → z1x n t k = tF n t)
 | 0,t,_ => nomatch t
 | n + 1,t,h => fun k h0 h1 => by
  have hs:=h.1
  rw [z1x]
  have hw : wrap64 (1 + (t.2.1.size : Int)) = 1 + t.2.1.size:=by unfold wrap64; omega
  rw [hw]
  obtain ⟨a,b,c⟩:=szL_le (z1x n) (tF n) k ⟨h0,h1⟩ t.2.2 (1 + t.2.1.size) (fun x hx => sizeF_le n x (h.2 x hx)) (by omega) (by omega)
  refine ⟨a,by omega,fun hh => ?_⟩
  rw [c hh,tF]; push_cast; omega
theorem sizeX_le {m : Nat} : ∀ (n : Nat) (t : XT m n),bndX n t → ∀ k : Int,0 ≤ k → k ≤ 2000 → z2x n t k ≤ k + 281474976710657 ∧ 1 ≤ z2x n t k ∧ (z2x n t k ≤ k → z2x n t k = tX n t)
 | 0,t,_ => nomatch t
 | n + 1,t,h => fun k h0 h1 => by
  rw [z2x]
  obtain ⟨a,b,c⟩:=szL_le (z1x m) (tF m) k ⟨h0,h1⟩ t.2.1 1 (fun x hx => sizeF_le m x (h.1 x hx)) (by omega) (by omega)
  obtain ⟨a',b',c'⟩:=szL_le (z2x n) (tX n) k ⟨h0,h1⟩ t.2.2.1 (szL (z1x m) k t.2.1 1) (fun x hx => sizeX_le n x (h.2 x hx)) (by omega) (by omega)
  refine ⟨a',by omega,fun hh => ?_⟩
  have:=c (by omega)
  rw [c' hh,tX]; push_cast; omega
theorem nF_le : ∀ (n : Nat) (t : FT n),nF n t ≤ tF n t
 | 0,t => nomatch t
 | n + 1,t => by
  have:=sum_le (nF n) (tF n) t.2.2 (fun x _ => nF_le n x)
  rw [nF,tF]; omega
theorem nX_le {m : Nat} : ∀ (n : Nat) (t : XT m n),nX n t ≤ tX n t
 | 0,t => nomatch t
 | n + 1,t => by
  have h1:=sum_le (nX n) (tX n) t.2.2.1 (fun x _ => nX_le n x)
  have h2:=sum_le (nF m) (tF m) t.2.1 (fun x _ => nF_le m x)
  rw [nX,tX]; split <;> omega
theorem z4n {α : Type} (f : α → Int) (g : α → Nat) : ∀ (l : List α) (a : Nat),(∀ x ∈ l,f x = g x) → a + (l.map g).sum ≤ 1000000 → z1h f a l = ((a + (l.map g).sum : Nat) : Int)
 | [],a,_,_ => by simp [z1h]
 | x :: r,a,H,h => by
  simp only [List.map_cons,List.sum_cons] at h ⊢
  have h1:=H x (by simp)
  have hw : wrap64 ((a : Int) + f x) = ((a + g x : Nat) : Int):=by rw [h1]; unfold wrap64; omega
  show z1h f (wrap64 ((a : Int) + f x)) r = _
  rw [hw,z4n f g r (a + g x) (fun y hy => H y (by simp [hy])) (by omega)]
  congr 1; omega
theorem cntF_n : ∀ (n : Nat) (t : FT n),nF n t ≤ 1000000 → cntF n t = nF n t
 | 0,t,_ => nomatch t
 | n + 1,t,h => by
  rw [nF] at h
  have:=z4n (cntF n) (nF n) t.2.2 1 (fun x hx => cntF_n n x (by have:=z4k (nF n) t.2.2 x hx; omega)) h
  rw [cntF,nF]; exact this
theorem fmsC_n {n : Nat} (l : List (FT n)) (h : (l.map (nF n)).sum ≤ 1000000) : fmsC n l = ((l.map (nF n)).sum : Nat):=by
 have:=z4n (cntF n) (nF n) l 0 (fun x hx => cntF_n n x (by have:=z4k (nF n) l x hx; omega)) (by omega)
 rw [Nat.zero_add] at this
 exact this
theorem manyX_n {m : Nat} : ∀ (n : Nat) (t : XT m n),nX n t ≤ 1000000 → z1m n t = nX n t
 | 0,t,_ => nomatch t
 | n + 1,t,h => by
  rw [nX] at h
  have key : (oneX t.1 t.2.1 : Int) = ((if t.1 = 1 then (t.2.1.map (nF m)).sum else 1 : Nat) : Int):=by
   unfold oneX
   split
   ·rename_i h1
    rw [if_pos h1] at h
    exact fmsC_n _ (by omega)
   ·rfl
  have:=z4n (cntX oneX n) (nX n) t.2.2.1 _ (fun x hx => manyX_n n x (by have:=z4k (nX n) t.2.2.1 x hx; omega)) h
  rw [nX]
  show z1h (cntX oneX n) (oneX t.1 t.2.1) t.2.2.1 = _
  rw [key]; exact this
theorem z6y {m : Nat} {names : List ByteArray} {n : Nat} {x : XT m n} : z0z names n x = 0 ↔ z0r names = 0 ∧ allX z02 n x = true ∧ z1m n x ≤ 64 ∧ allX (z12 names) n x = true ∧ allX z11 n x = true:=by
 unfold z0z
 by_cases h1 : z0r names = 0
 ·cases h2 : allX z02 n x
  ·simp [h1]
  ·by_cases h3 : 64 < z1m n x
   ·have : ¬ z1m n x ≤ 64:=by omega
    simp [h1,h3,this]
   ·cases h4 : allX (z12 names) n x
    ·simp [h1,h3]
    ·cases h5 : allX z11 n x
     ·simp [h1,h3]
     ·simp [h1,h3]; omega
 ·simp [h1]
theorem fmlR_zero {names : List ByteArray} {n : Nat} {f : FT n} : fmlR names n f = 0 ↔ z0r names = 0 ∧ allF z04 n f = true ∧ fmsC n [f] ≤ 64 ∧ allF (z0g names) n f = true:=by
 unfold fmlR
 by_cases h1 : z0r names = 0
 ·cases h2 : allF z04 n f
  ·simp [h1]
  ·by_cases h3 : 64 < fmsC n [f]
   ·have : ¬ fmsC n [f] ≤ 64:=by omega
    simp [h1,h3,this]
   ·cases h4 : allF (z0g names) n f
    ·simp [h1,h3]
    ·simp [h1,h3]; omega
 ·simp [h1]
end Go.Proofs.YtockinpjfhhkoaaGreatDoor
/- Plain: names that are not great are short ones. No program. -/
namespace Go.Proofs.YtockinpjfhhkoaaGreatDoor
open Go.RowKit
def gnGo : List ByteArray → Int → Int
 | [],n => n
 | s :: r,n => if n < 10000 then gnGo r (wrap64 (wrap64 (n + 1) + s.size)) else n
def z6q (l : List ByteArray) : Bool:=decide (5000 < gnGo l 0)
theorem gnGo_drop (l : List ByteArray) (k : Nat) (n : Int) (h : k < l.length) (hn : n < 10000) : gnGo (l.drop k) n = gnGo (l.drop (k + 1)) (wrap64 (wrap64 (n + 1) + l[k].size)):=by
 rw [List.drop_eq_getElem_cons h,gnGo,if_pos hn]
theorem gnGo_stop (l : List ByteArray) (n : Int) (hn : ¬ n < 10000) : gnGo l n = n:=by
 cases l with
 | nil => rfl
 | cons x r => rw [gnGo,if_neg hn]
theorem gnGo_end (l : List ByteArray) (n : Int) : gnGo (l.drop l.length) n = n:=by rw [List.drop_length]; rfl
theorem gnGo_le : ∀ (l : List ByteArray) (n : Int),(∀ s ∈ l,s.size ≤ 281474976710656) → 0 ≤ n → n ≤ 300000000000000 → n ≤ gnGo l n ∧ (gnGo l n ≤ 5000 → ∀ s ∈ l,s.size ≤ 5000)
 | [],n,_,_,_ => ⟨by simp [gnGo],fun _ s hs => absurd hs (by simp)⟩
 | x :: r,n,H,h0,h1 => by
  rw [gnGo]
  split
  ·rename_i hn
   have hx:=H x (by simp)
   have hw : wrap64 (wrap64 (n + 1) + x.size) = n + 1 + x.size:=by unfold wrap64; omega
   rw [hw]
   obtain ⟨a,b⟩:=gnGo_le r (n + 1 + x.size) (fun s hs => H s (by simp [hs])) (by omega) (by omega)
   refine ⟨by omega,fun h s hs => ?_⟩
   rcases List.mem_cons.1 hs with rfl | hs
   ·omega
   ·exact b h s hs
  ·rename_i hn
   exact ⟨Int.le_refl _,fun h => absurd h (by omega)⟩
theorem greatN_not {l : List ByteArray} (h : z6q l = false) (H : ∀ s ∈ l,s.size ≤ 281474976710656) : ∀ s ∈ l,s.size ≤ 1048576:=by
 intro s hs
 have h1 : gnGo l 0 ≤ 5000:=by unfold z6q at h; simpa using h
 have:=(gnGo_le l 0 H (by omega) (by omega)).2 h1 s hs
 omega
end Go.Proofs.YtockinpjfhhkoaaGreatDoor
namespace Go.Proofs.YtockinpjfhhkoaaGreatDoor
open Go.RowKit
theorem bit_same : ∀ (on : Fin 256) (d : Fin 8),(bits .and .i64 (on.val : Int) (wrap64 (2 ^ d.val)) != 0) = (bits .and .u8 ((on.val : Int) / 2 ^ d.val) 1 == 1):=by decide +kernel
theorem bit_same' {on : Int} (h0 : 0 ≤ on) (h1 : on ≤ 255) {d : Nat} (hd : d < 8) : (bits .and .i64 on (wrap64 (2 ^ d)) != 0) = (bits .and .u8 (on / 2 ^ d) 1 == 1):=by
 have h:=bit_same ⟨on.toNat,by omega⟩ ⟨d,hd⟩
 have e : ((on.toNat : Nat) : Int) = on:=by omega
 dsimp only at h
 rw [e] at h
 exact h
theorem idx_lt {s : ByteArray} {l : List ByteArray} (h : inN s l = true) : 0 ≤ idxN s l ∧ idxN s l < l.length:=by
 have h1:=idxN_in s l
 rw [h] at h1
 simp only [decide_eq_true_eq] at h1
 refine ⟨h1,?_⟩
 unfold idxN at h1 ⊢
 cases q : l.findIdx? (fun x => s.toList == x.toList) with
 | none => rw [q] at h1; simp at h1
 | some i =>
  have:=List.findIdx?_eq_some_iff_getElem.1 q
  obtain ⟨hi,_⟩:=this
  show ((i : Nat) : Int) < l.length
  omega
open Go.RowKit
theorem z5w (l : List ByteArray) (v : Value) (w : World) (hn : NRep w w.heap.size v l) :
 Calls Tryz.prog 13 #[v] w fun e w' => e = .returned (.bool (z6q l)) ∧ w' = w:=by
 obtain ⟨a,c,rfl,hm,hn⟩:=hn
 have HD:=Jh (gnGo_drop l)
 have HS:=Jh gnGo_stop
 have HE:=Jh (gnGo_end l)
 have HF : Hid (∀ z,gnGo (l.drop 0) 0 = z → z6q l = decide (5000 < z)):=fun z h => by unfold z6q; rw [← h]; rfl
 go_enter Tryz.func13,Tryz.ntmps13
 go_wp2_with fail
 go_loopw [3,4] (fun q i wr => ∃ (j : Nat) (z : Int),j ≤ l.length ∧ i = .int .i64 j ∧ q = .int .i64 z ∧ Hid (gnGo (l.drop 0) 0 = gnGo (l.drop j) z) ∧ wr = w) (fun _ i _ => l.length - (intOf i).toNat)
 case atStart => exact ⟨0,0,Nat.zero_le _,rfl,rfl,rfl,rfl⟩
 case round =>
  obtain ⟨j,z,hj,rfl,rfl,HT,rfl⟩:=hrel
  by_cases hlt : j < l.length
  ·by_cases hq : z < 10000
   ·rcases hn with hn | ⟨b,off,rfl,hb,hc⟩
    ·rw [hn] at hlt; exact absurd hlt (by simp)
    ·have c0:=hc j hlt
     have HC:=Jh hc
     have HSS:=Jh (HD.out j z hlt hq)
     clear hc
     go_wp2_with fail
     go_roundw
     case rel => exact ⟨j + 1,_,by omega,by go_num,rfl,HT.out.trans HSS.out,trivial⟩
     case measure => simp [intOf]; omega
   ·have HSS:=Jh (HF.out z (HT.out.trans (HS.out (l.drop j) z (by omega))))
    clear hn
    go_wp2_with fail
    all_goals go_ret
    all_goals exact ⟨z01 HSS.out.symm,rfl⟩
  ·have hje : j = l.length:=by omega
   subst hje
   have HSS:=Jh (HF.out z (HT.out.trans (HE.out z)))
   clear hn
   go_wp2_with fail
   all_goals go_ret
   all_goals exact ⟨z01 HSS.out.symm,rfl⟩
end Go.Proofs.YtockinpjfhhkoaaGreatDoor
