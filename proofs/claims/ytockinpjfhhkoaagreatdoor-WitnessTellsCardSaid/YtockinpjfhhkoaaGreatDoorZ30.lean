/- Layer 16 walked: how much a formula, and an expression, is (the book's sizes); the greatest number. -/
import Derived.Test.YtockinpjfhhkoaaGreatDoorZ02
import Derived.Test.YtockinpjfhhkoaaGreatDoorZ29
set_option maxRecDepth 100000
set_option maxHeartbeats 16000000
open Go.Lib renaming hid → Jh
namespace Go.Proofs.YtockinpjfhhkoaaGreatDoor
open Go.RowKit
theorem szL_end {α : Type} (f : α → Int → Int) (most n : Int) (l : List α) : szL f most (l.drop l.length) n = n:=by rw [List.drop_length]; rfl
theorem size49_any (n : Nat) : ∀ (t : FT n) (v : Value) (most : Int) (w : World),FRep w w.heap.size n t v →
 Calls Tryz.prog 39 #[v,.int .i64 most] w fun e w' => e = .returned (.int .i64 (z1x n t most)) ∧ Below w.heap.size w w':=by
 induction n with
 | zero => intro t v most w h; exact h.elim
 | succ n ih =>
  intro t v most w h
  obtain ⟨k,s,of⟩:=t
  obtain ⟨a,c,rfl,hR⟩:=h
  dsimp only at hR ⊢
  have hm:=hR.1
  have HR:=Jh hR
  have IH:=Jh ih
  have HE : Hid (z1x (n + 1) (k,s,of) most = szL (z1x n) most (of.drop 0) (wrap64 (1 + s.size))):=rfl
  have HZ : Hid (Below w.heap.size w (w.alloc (.cells #[.int .u8 k,.string s,.slice a of.length c] 25))):=(Below.refl _ _).alloc (Nat.le_refl _) _
  clear hR ih
  go_enter Tryz.func39,Tryz.ntmps39
  go_wp2_with fail
  go_loopw [5,6] (fun q i wr => ∃ (j : Nat) (z : Int),j ≤ of.length ∧ i = .int .i64 j ∧ q = .int .i64 z ∧ Hid (z1x (n + 1) (k,s,of) most = szL (z1x n) most (of.drop j) z) ∧ Below w.heap.size w wr ∧ w.heap.size < wr.heap.size ∧ wr.cell? ⟨w.heap.size,2,none⟩ = some (.slice a of.length c)) (fun _ i _ => of.length - (intOf i).toNat)
  case atStart => exact ⟨0,_,Nat.zero_le _,rfl,rfl,HE,HZ.out,by simp,by simp [World.cell?_alloc_at]⟩
  case round =>
   obtain ⟨j,z,hj,rfl,rfl,HT,hbw,hsz,hbox⟩:=hrel
   have HBW:=Jh hbw
   by_cases hlt : j < of.length
   ·by_cases hq : z ≤ most
    ·obtain ⟨b,off,k',s',sa,sl,sc,rfl,hbl,c0,c1,c2,hr⟩:=(FRow.up HR.out hbw (Nat.le_refl _)).at j hlt
     have hz:=hbw.size
     have hbl' : b < wr.heap.size:=by omega
     have hS:=Jh (z62 (z1x n) most of j z hlt hq)
     have HC:=Jh (IH.out of[j] _ (wrap64 (most - z)) wr (hr.up (Below.refl _ _) hz))
     clear hr hbw
     go_wp2_with fail
     refine HC.out.mono ?_
     rintro e w3 ⟨rfl,hb4⟩
     have HB4:=Jh (HBW.out.trans (hb4.mono hz))
     have hbox3:=(hb4.cell (p:=⟨w.heap.size,2,none⟩) hsz).trans hbox
     have hsz3 : w.heap.size < w3.heap.size:=by have:=hb4.size; omega
     clear hb4
     go_wp2_with fail
     go_roundw
     case rel => exact ⟨j + 1,_,by omega,by go_num,rfl,HT.out.trans hS.out,HB4.out,hsz3,hbox3⟩
     case measure => simp [intOf]; omega
    ·have hS:=Jh (z5z (z1x n) most (of.drop j) z hq)
     clear hbw
     go_wp2_with fail
     all_goals go_ret
     all_goals exact ⟨z0u (by rw [HT.out,hS.out]),HBW.out⟩
   ·have hje : j = of.length:=by omega
    subst hje
    have hS:=Jh (szL_end (z1x n) most z of)
    clear hbw
    go_wp2_with fail
    all_goals go_ret
    all_goals exact ⟨z0u (by rw [HT.out,hS.out]),HBW.out⟩
theorem size30_any (m n : Nat) : ∀ (t : XT m n) (v : Value) (most : Int) (w : World),XRep w w.heap.size m n t v →
 Calls Tryz.prog 49 #[v,.int .i64 most] w fun e w' => e = .returned (.int .i64 (z2x n t most)) ∧ Below w.heap.size w w':=by
 induction n with
 | zero => intro t v most w h; exact h.elim
 | succ n ih =>
  intro t v most w h
  obtain ⟨k,is,of,lo,ls,hi,hs,op⟩:=t
  obtain ⟨a1,c1,a,c,rfl,hR1,hR⟩:=h
  dsimp only at hR hR1 ⊢
  have hm:=hR.1
  have hm1:=hR1.1
  have HR:=Jh hR
  have HR1:=Jh hR1
  have IH:=Jh ih
  have HE : Hid (szL (z1x m) most is 1 = szL (z1x m) most (is.drop 0) 1):=rfl
  have HE2 : Hid (z2x (n + 1) ((k,is,of,⟨lo,ls,hi,hs,op⟩) : XT m (n + 1)) most = szL (z2x n) most (of.drop 0) (szL (z1x m) most is 1)):=rfl
  have HZ : Hid (Below w.heap.size w (w.alloc (.cells #[.int .u8 k,.slice a1 is.length c1,.slice a of.length c,.int .i64 lo,.bool ls,.int .i64 hi,.bool hs,.bool op] 47))):=(Below.refl _ _).alloc (Nat.le_refl _) _
  clear hR hR1 ih
  go_enter Tryz.func49,Tryz.ntmps49
  go_wp2_with fail
  go_loopw [5,6] (fun q i wr => ∃ (j : Nat) (z : Int),j ≤ is.length ∧ i = .int .i64 j ∧ q = .int .i64 z ∧ Hid (szL (z1x m) most is 1 = szL (z1x m) most (is.drop j) z) ∧ Below w.heap.size w wr ∧ w.heap.size < wr.heap.size ∧ wr.cell? ⟨w.heap.size,1,none⟩ = some (.slice a1 is.length c1) ∧ wr.cell? ⟨w.heap.size,2,none⟩ = some (.slice a of.length c)) (fun _ i _ => is.length - (intOf i).toNat)
  case atStart => exact ⟨0,_,Nat.zero_le _,rfl,rfl,HE,HZ.out,by simp,by simp [World.cell?_alloc_at],by simp [World.cell?_alloc_at]⟩
  case round =>
   obtain ⟨j,z,hj,rfl,rfl,HT,hbw,hsz,hbox,hbox2⟩:=hrel
   have HBW:=Jh hbw
   have HSTOP : Hid (∀ N1 : Int,szL (z1x m) most is 1 = N1 → z2x (n + 1) ((k,is,of,⟨lo,ls,hi,hs,op⟩) : XT m (n + 1)) most = szL (z2x n) most (of.drop 0) N1):=fun N1 h => by rw [HE2.out,h]
   by_cases hgo : j < is.length ∧ z ≤ most
   ·obtain ⟨hlt,hq⟩:=hgo
    obtain ⟨b,off,k',s',sa,sl,sc,rfl,hbl,c0,c1,c2,hr⟩:=(FRow.up HR1.out hbw (Nat.le_refl _)).at j hlt
    have hz:=hbw.size
    have hbl' : b < wr.heap.size:=by omega
    have hS:=Jh (z62 (z1x m) most is j z hlt hq)
    have HC:=Jh (size49_any m is[j] _ (wrap64 (most - z)) wr (hr.up (Below.refl _ _) hz))
    clear hr hbw
    go_wp2_with fail
    refine HC.out.mono ?_
    rintro e w3 ⟨rfl,hb4⟩
    have HB4:=Jh (HBW.out.trans (hb4.mono hz))
    have hbox3:=(hb4.cell (p:=⟨w.heap.size,1,none⟩) hsz).trans hbox
    have hbox4:=(hb4.cell (p:=⟨w.heap.size,2,none⟩) hsz).trans hbox2
    have hsz3 : w.heap.size < w3.heap.size:=by have:=hb4.size; omega
    clear hb4
    go_wp2_with fail
    go_roundw
    case rel => exact ⟨j + 1,_,by omega,by go_num,rfl,HT.out.trans hS.out,HB4.out,hsz3,hbox3,hbox4⟩
    case measure => simp [intOf]; omega
   ·have hS : Hid (szL (z1x m) most (is.drop j) z = z):=by
     by_cases hlt : j < is.length
     ·exact z5z _ _ _ _ (fun hq => hgo ⟨hlt,hq⟩)
     ·obtain rfl : j = is.length:=by omega
      exact szL_end _ _ _ _
    have HE3:=Jh (HSTOP.out z (HT.out.trans hS.out))
    have hq : ¬ j < is.length ∨ (j < is.length ∧ ¬ z ≤ most):=by omega
    clear HE HE2 HSTOP HT hS hgo
    rcases hq with hq | ⟨hq,hq2⟩
    all_goals
     clear hbw
     go_wp2_with fail
     go_loopw [5,7] (fun q i wr => ∃ (j : Nat) (z : Int),j ≤ of.length ∧ i = .int .i64 j ∧ q = .int .i64 z ∧ Hid (z2x (n + 1) ((k,is,of,⟨lo,ls,hi,hs,op⟩) : XT m (n + 1)) most = szL (z2x n) most (of.drop j) z) ∧ Below w.heap.size w wr ∧ w.heap.size < wr.heap.size ∧ wr.cell? ⟨w.heap.size,2,none⟩ = some (.slice a of.length c)) (fun _ i _ => of.length - (intOf i).toNat)
     case atStart => exact ⟨0,_,Nat.zero_le _,rfl,rfl,HE3,HBW.out,hsz,hbox2⟩
     case round =>
      clear hq hj
      try clear hq2
      clear HBW hsz hbox hbox2 HE3
      obtain ⟨j,z,hj,rfl,rfl,HT,hbw,hsz,hbox⟩:=hrel
      have HBW:=Jh hbw
      by_cases hlt : j < of.length
      ·by_cases hq : z ≤ most
       ·obtain ⟨b,off,k',a1',l1',c1',a2',l2',c2',lo',ls',hi',hs',op',rfl,hbl,c0,d1,c2,c3,c4,c5,c6,c7,hr⟩:=(XRow.up HR.out hbw (Nat.le_refl _)).at j hlt
        have hz:=hbw.size
        have hbl' : b < wr.heap.size:=by omega
        have hS:=Jh (z62 (z2x n) most of j z hlt hq)
        have HC:=Jh (IH.out of[j] _ (wrap64 (most - z)) _ (hr.up (Below.refl _ _) hz))
        clear hr hbw
        go_wp2_with fail
        refine HC.out.mono ?_
        rintro e w3 ⟨rfl,hb4⟩
        have HB4:=Jh (HBW.out.trans (hb4.mono hz))
        have hbox3:=(hb4.cell (p:=⟨w.heap.size,2,none⟩) hsz).trans hbox
        have hsz3 : w.heap.size < w3.heap.size:=by have:=hb4.size; omega
        clear hb4
        go_wp2_with fail
        go_roundw
        case rel => exact ⟨j + 1,_,by omega,by go_num,rfl,HT.out.trans hS.out,HB4.out,hsz3,hbox3⟩
        case measure => simp [intOf]; omega
       ·have hS:=Jh (z5z (z2x n) most (of.drop j) z hq)
        clear hbw
        go_wp2_with fail
        all_goals go_ret
        all_goals exact ⟨z0u (by rw [HT.out,hS.out]),HBW.out⟩
      ·have hje : j = of.length:=by omega
       subst hje
       have hS:=Jh (szL_end (z2x n) most z of)
       clear hbw
       go_wp2_with fail
       all_goals go_ret
       all_goals exact ⟨z0u (by rw [HT.out,hS.out]),HBW.out⟩
theorem great11_any (m n : Nat) (t : XT m n) (v : Value) (w : World) (h : XRep w w.heap.size m n t v) :
 Calls Tryz.prog 19 #[v] w fun e w' => e = .returned (.bool (decide (2000 < z2x n t 2000))) ∧ Below w.heap.size w w':=by
 obtain ⟨k,a1,l1,c1,a,l,c,lo,ls,hi,hs,op,rfl⟩:=h.shape
 have hb : Below w.heap.size w (w.alloc (.cells #[.int .u8 k,.slice a1 l1 c1,.slice a l c,.int .i64 lo,.bool ls,.int .i64 hi,.bool hs,.bool op] 47)):=(Below.refl _ _).alloc (Nat.le_refl _) _
 have HC:=Jh (size30_any m n t _ 2000 _ (h.up hb hb.size))
 have HB:=Jh hb
 clear h hb
 go_enter Tryz.func19,Tryz.ntmps19
 go_wp2_with fail
 refine HC.out.mono ?_
 rintro e w1 ⟨rfl,hb1⟩
 have HB1:=Jh (HB.out.trans (hb1.mono HB.out.size))
 clear hb1
 go_wp2_with fail
 all_goals go_ret
 all_goals exact ⟨rfl,HB1.out⟩
open Go.RowKit
theorem idx_neg (s : ByteArray) (l : List ByteArray) : decide (idxN s l < 0) = !inN s l:=by
 unfold idxN inN
 cases hf : l.findIdx? (fun x => s.toList == x.toList) with
 | none =>
  rw [List.findIdx?_eq_none_iff] at hf
  have : (l.any fun x => s.toList == x.toList) = false:=by
   rw [List.any_eq_false]; intro x hx; simpa using hf x hx
  rw [this]; rfl
 | some k =>
  rw [List.findIdx?_eq_some_iff_getElem] at hf
  obtain ⟨hk,h1,_⟩:=hf
  have : (l.any fun x => s.toList == x.toList) = true:=List.any_eq_true.2 ⟨_,List.getElem_mem hk,h1⟩
  rw [this]
  show decide (((k : Nat) : Int) < 0) = _
  simp
theorem z6v (names : List ByteArray) (nv : Value) (w0 : World) (hn : NRep w0 w0.heap.size nv names) (n : Nat) : ∀ (t : FT n) (v : Value) (w : World),FRep w w.heap.size n t v → Below w0.heap.size w0 w →
 Calls Tryz.prog 164 #[nv,v] w fun e w' => e = .returned (.bool (allF (z0g names) n t)) ∧ Below w.heap.size w w':=by
 have HN:=Jh hn
 clear hn
 induction n with
 | zero => intro t v w h; exact h.elim
 | succ n ih =>
  intro t v w h hw0
  obtain ⟨k,s,of⟩:=t
  obtain ⟨a,c,rfl,hR⟩:=h
  have hR : FRow w w.heap.size n a of:=hR
  dsimp only
  have HIH:=Jh ih
  have HR:=Jh hR
  have HW0:=Jh hw0
  have hm:=hR.1
  have hb0 : Below w.heap.size w (w.alloc (.cells #[.int .u8 k,.string s,.slice a of.length c] 25)):=(Below.refl _ w).alloc (Nat.le_refl _) _
  have HB0:=Jh hb0
  have HA : Hid (allF (z0g names) (n + 1) (k,s,of) = (z0g names k s of.length && of.all (allF (z0g names) n))):=rfl
  have HAT:=Jh (at96_any names nv s (w.alloc (.cells #[.int .u8 k,.string s,.slice a of.length c] 25)) (HN.out.up (hw0.trans (hb0.mono hw0.size)) (by have:=hw0.size; simp; omega)))
  clear hR ih hb0 hw0
  by_cases hk : k = 3
  ·subst hk
   have HI:=Jh (idx_neg s names)
   cases qi : inN s names with
   | true =>
    have HD : Hid (z0g names 3 s of.length = true):=by rw [Hid]; unfold z0g; rw [qi]; rfl
    have q1 : ¬ idxN s names < 0:=by have h:=HI.out; rw [qi] at h; simpa using h
    clear qi
    generalize idxN s names = z at HAT q1
    clear HI
    go_enter Tryz.func164,Tryz.ntmps164
    go_wp2_with fail
    refine HAT.out.mono ?_
    rintro e w' ⟨rfl,rfl⟩
    go_wp2_with fail
    go_loopw [5] (fun i wr => ∃ j : Nat,j ≤ of.length ∧ i = .int .i64 j ∧ Hid ((of.take j).all (allF (z0g names) n) = true) ∧ Below w.heap.size w wr ∧ w.heap.size < wr.heap.size ∧ wr.cell? ⟨w.heap.size,2,none⟩ = some (.slice a of.length c)) (fun i _ => of.length - (intOf i).toNat)
    case atStart => exact ⟨0,Nat.zero_le _,rfl,by simp [Hid],HB0.out,by simp,by simp [World.cell?_alloc_at]⟩
    case round =>
     obtain ⟨j,hj,rfl,HT,hbw,hsz,hbox2⟩:=hrel
     have HBW:=Jh hbw
     by_cases hlt : j < of.length
     ·have hltI : ((j : Nat) : Int) < ((of.length : Nat) : Int):=by omega
      obtain ⟨b,off,k',s',sa,sl,sc,rfl,hbl,c0,c1,c2,hr⟩:=(FRow.up HR.out hbw (Nat.le_refl _)).at j hlt
      have hz:=hbw.size
      have hbl' : b < wr.heap.size:=by omega
      have HC:=Jh (HIH.out of[j] _ wr (hr.up (Below.refl _ _) hz) (HW0.out.trans (HBW.out.mono HW0.out.size)))
      have HTK:=Jh (z06 (allF (z0g names) n) of j hlt)
      have HF : Hid ((allF (z0g names) n) of[j] = false → of.all (allF (z0g names) n) = false):=fun h => List.all_eq_false.2 ⟨_,List.getElem_mem hlt,by simp [h]⟩
      clear hr hbw
      cases qq : (allF (z0g names) n) of[j] with
      | true =>
       have HT' : Hid ((of.take (j + 1)).all (allF (z0g names) n) = true):=by rw [Hid,HTK.out,HT.out]; simp [qq]
       rw [qq] at HC
       clear qq
       go_wp2_with fail
       refine HC.out.mono ?_
       rintro e w3 ⟨rfl,hb3⟩
       have HB3:=Jh (HBW.out.trans (hb3.mono hz))
       have hsz3 : w.heap.size < w3.heap.size:=by have:=hb3.size; omega
       have gbox2:=(hb3.cell (p:=⟨w.heap.size,2,none⟩) hsz).trans hbox2
       clear hb3
       go_wp2_with fail
       go_roundw
       case rel => exact ⟨j + 1,by omega,by go_num,HT',HB3.out,hsz3,gbox2⟩
       case measure => simp [intOf]; omega
      | false =>
       have HNO:=Jh (HF.out qq)
       rw [qq] at HC
       clear qq
       go_wp2_with fail
       refine HC.out.mono ?_
       rintro e w3 ⟨rfl,hb3⟩
       have HB3:=Jh (HBW.out.trans (hb3.mono hz))
       clear hb3
       go_wp2_with fail
       all_goals go_ret
       all_goals exact ⟨z01 (by rw [HA.out,HNO.out,Bool.and_false]),HB3.out⟩
     ·have hje : j = of.length:=by omega
      subst hje
      have hltI : ¬ ((of.length : Nat) : Int) < ((of.length : Nat) : Int):=by omega
      have HALL : Hid (of.all (allF (z0g names) n) = true):=by have h:=HT.out; rw [List.take_length] at h; exact h
      clear HT
      go_wp2_with fail
      all_goals go_ret
      all_goals exact ⟨z01 (by rw [HA.out,HD.out,HALL.out]; rfl),HBW.out⟩
   | false =>
    have HD : Hid (z0g names 3 s of.length = false):=by rw [Hid]; unfold z0g; rw [qi]; rfl
    have q1 : idxN s names < 0:=by have h:=HI.out; rw [qi] at h; simpa using h
    clear qi
    generalize idxN s names = z at HAT q1
    clear HI
    go_enter Tryz.func164,Tryz.ntmps164
    go_wp2_with fail
    refine HAT.out.mono ?_
    rintro e w' ⟨rfl,rfl⟩
    go_wp2_with fail
    all_goals go_ret
    all_goals exact ⟨z01 (by rw [HA.out,HD.out,Bool.false_and]),HB0.out⟩
  ·have q1 : (k == 3) = false:=by simpa using hk
   have HD : Hid (z0g names k s of.length = true):=by rw [Hid]; unfold z0g; simp [hk]
   clear hk
   go_enter Tryz.func164,Tryz.ntmps164
   go_wp2_with fail
   go_loopw [5] (fun i wr => ∃ j : Nat,j ≤ of.length ∧ i = .int .i64 j ∧ Hid ((of.take j).all (allF (z0g names) n) = true) ∧ Below w.heap.size w wr ∧ w.heap.size < wr.heap.size ∧ wr.cell? ⟨w.heap.size,2,none⟩ = some (.slice a of.length c)) (fun i _ => of.length - (intOf i).toNat)
   case atStart => exact ⟨0,Nat.zero_le _,rfl,by simp [Hid],HB0.out,by simp,by simp [World.cell?_alloc_at]⟩
   case round =>
    obtain ⟨j,hj,rfl,HT,hbw,hsz,hbox2⟩:=hrel
    have HBW:=Jh hbw
    by_cases hlt : j < of.length
    ·have hltI : ((j : Nat) : Int) < ((of.length : Nat) : Int):=by omega
     obtain ⟨b,off,k',s',sa,sl,sc,rfl,hbl,c0,c1,c2,hr⟩:=(FRow.up HR.out hbw (Nat.le_refl _)).at j hlt
     have hz:=hbw.size
     have hbl' : b < wr.heap.size:=by omega
     have HC:=Jh (HIH.out of[j] _ wr (hr.up (Below.refl _ _) hz) (HW0.out.trans (HBW.out.mono HW0.out.size)))
     have HTK:=Jh (z06 (allF (z0g names) n) of j hlt)
     have HF : Hid ((allF (z0g names) n) of[j] = false → of.all (allF (z0g names) n) = false):=fun h => List.all_eq_false.2 ⟨_,List.getElem_mem hlt,by simp [h]⟩
     clear hr hbw
     cases qq : (allF (z0g names) n) of[j] with
     | true =>
      have HT' : Hid ((of.take (j + 1)).all (allF (z0g names) n) = true):=by rw [Hid,HTK.out,HT.out]; simp [qq]
      rw [qq] at HC
      clear qq
      go_wp2_with fail
      refine HC.out.mono ?_
      rintro e w3 ⟨rfl,hb3⟩
      have HB3:=Jh (HBW.out.trans (hb3.mono hz))
      have hsz3 : w.heap.size < w3.heap.size:=by have:=hb3.size; omega
      have gbox2:=(hb3.cell (p:=⟨w.heap.size,2,none⟩) hsz).trans hbox2
      clear hb3
      go_wp2_with fail
      go_roundw
      case rel => exact ⟨j + 1,by omega,by go_num,HT',HB3.out,hsz3,gbox2⟩
      case measure => simp [intOf]; omega
     | false =>
      have HNO:=Jh (HF.out qq)
      rw [qq] at HC
      clear qq
      go_wp2_with fail
      refine HC.out.mono ?_
      rintro e w3 ⟨rfl,hb3⟩
      have HB3:=Jh (HBW.out.trans (hb3.mono hz))
      clear hb3
      go_wp2_with fail
      all_goals go_ret
      all_goals exact ⟨z01 (by rw [HA.out,HNO.out,Bool.and_false]),HB3.out⟩
    ·have hje : j = of.length:=by omega
     subst hje
     have hltI : ¬ ((of.length : Nat) : Int) < ((of.length : Nat) : Int):=by omega
     have HALL : Hid (of.all (allF (z0g names) n) = true):=by have h:=HT.out; rw [List.take_length] at h; exact h
     clear HT
     go_wp2_with fail
     all_goals go_ret
     all_goals exact ⟨z01 (by rw [HA.out,HD.out,HALL.out]; rfl),HBW.out⟩
theorem known83_any (names : List ByteArray) (nv : Value) (w0 : World) (hn : NRep w0 w0.heap.size nv names) (m n : Nat) : ∀ (t : XT m n) (v : Value) (w : World),XRep w w.heap.size m n t v → Below w0.heap.size w0 w →
 Calls Tryz.prog 106 #[nv,v] w fun e w' => e = .returned (.bool (allX (z12 names) n t)) ∧ Below w.heap.size w w':=by
 have HN:=Jh hn
 clear hn
 induction n with
 | zero => intro t v w h; exact h.elim
 | succ n ih =>
  intro t v w h hw0
  obtain ⟨k,is,of,lo,ls,hi,hs,op⟩:=t
  obtain ⟨a1,c1,a,c,rfl,hR1,hR⟩:=h
  dsimp only at hR hR1 ⊢
  have hm:=hR.1
  have hm1:=hR1.1
  have HR:=Jh hR
  have HR1:=Jh hR1
  have HIH:=Jh ih
  have hb0 : Below w.heap.size w (w.alloc (.cells #[.int .u8 k,.slice a1 is.length c1,.slice a of.length c,.int .i64 lo,.bool ls,.int .i64 hi,.bool hs,.bool op] 47)):=(Below.refl _ w).alloc (Nat.le_refl _) _
  have HB0:=Jh hb0
  have HW0:=Jh hw0
  have HA : Hid (allX (z12 names) (n + 1) ((k,is,of,⟨lo,ls,hi,hs,op⟩) : XT m (n + 1)) = (is.all (allF (z0g names) m) && of.all (allX (z12 names) n))):=rfl
  clear hR hR1 ih hb0 hw0
  go_enter Tryz.func106,Tryz.ntmps106
  go_wp2_with fail
  go_loopw [5] (fun i wr => ∃ j : Nat,j ≤ is.length ∧ i = .int .i64 j ∧ Hid ((is.take j).all (allF (z0g names) m) = true) ∧ Below w.heap.size w wr ∧ w.heap.size < wr.heap.size ∧ wr.cell? ⟨w.heap.size,1,none⟩ = some (.slice a1 is.length c1) ∧ wr.cell? ⟨w.heap.size,2,none⟩ = some (.slice a of.length c)) (fun i _ => is.length - (intOf i).toNat)
  case atStart => exact ⟨0,Nat.zero_le _,rfl,by simp [Hid],HB0.out,by simp,by simp [World.cell?_alloc_at],by simp [World.cell?_alloc_at]⟩
  case round =>
   obtain ⟨j,hj,rfl,HT,hbw,hsz,hbox1,hbox2⟩:=hrel
   have HBW:=Jh hbw
   by_cases hlt : j < is.length
   ·have hltI : ((j : Nat) : Int) < ((is.length : Nat) : Int):=by omega
    obtain ⟨b,off,k',s',sa,sl,sc,rfl,hbl,c0,c1,c2,hr⟩:=(FRow.up HR1.out hbw (Nat.le_refl _)).at j hlt
    have hz:=hbw.size
    have hbl' : b < wr.heap.size:=by omega
    have HC:=Jh (z6v names nv w0 HN.out m is[j] _ wr (hr.up (Below.refl _ _) hz) (HW0.out.trans (HBW.out.mono HW0.out.size)))
    have HTK:=Jh (z06 (allF (z0g names) m) is j hlt)
    have HF : Hid ((allF (z0g names) m) is[j] = false → is.all (allF (z0g names) m) = false):=fun h => List.all_eq_false.2 ⟨_,List.getElem_mem hlt,by simp [h]⟩
    clear hr hbw
    cases qq : (allF (z0g names) m) is[j] with
    | true =>
     have HT' : Hid ((is.take (j + 1)).all (allF (z0g names) m) = true):=by rw [Hid,HTK.out,HT.out]; simp [qq]
     rw [qq] at HC
     clear qq
     go_wp2_with fail
     refine HC.out.mono ?_
     rintro e w3 ⟨rfl,hb3⟩
     have HB3:=Jh (HBW.out.trans (hb3.mono hz))
     have hsz3 : w.heap.size < w3.heap.size:=by have:=hb3.size; omega
     have gbox1:=(hb3.cell (p:=⟨w.heap.size,1,none⟩) hsz).trans hbox1
     have gbox2:=(hb3.cell (p:=⟨w.heap.size,2,none⟩) hsz).trans hbox2
     clear hb3
     go_wp2_with fail
     go_roundw
     case rel => exact ⟨j + 1,by omega,by go_num,HT',HB3.out,hsz3,gbox1,gbox2⟩
     case measure => simp [intOf]; omega
    | false =>
     have HNO:=Jh (HF.out qq)
     rw [qq] at HC
     clear qq
     go_wp2_with fail
     refine HC.out.mono ?_
     rintro e w3 ⟨rfl,hb3⟩
     have HB3:=Jh (HBW.out.trans (hb3.mono hz))
     clear hb3
     go_wp2_with fail
     all_goals go_ret
     all_goals exact ⟨z01 (by rw [HA.out,HNO.out,Bool.false_and]),HB3.out⟩
   ·have hje : j = is.length:=by omega
    subst hje
    have hltI : ¬ ((is.length : Nat) : Int) < ((is.length : Nat) : Int):=by omega
    have HALL : Hid (is.all (allF (z0g names) m) = true):=by have h:=HT.out; rw [List.take_length] at h; exact h
    clear HT
    have HALL1:=HALL
    clear HALL hbw
    go_wp2_with fail
    go_loopw [6] (fun i wr => ∃ j : Nat,j ≤ of.length ∧ i = .int .i64 j ∧ Hid ((of.take j).all (allX (z12 names) n) = true) ∧ Below w.heap.size w wr ∧ w.heap.size < wr.heap.size ∧ wr.cell? ⟨w.heap.size,2,none⟩ = some (.slice a of.length c)) (fun i _ => of.length - (intOf i).toNat)
    case atStart => exact ⟨0,Nat.zero_le _,rfl,by simp [Hid],HBW.out,hsz,hbox2⟩
    case round =>
     clear HBW hsz hbox1 hbox2 hj hltI
     obtain ⟨j,hj,rfl,HT,hbw,hsz,hbox2⟩:=hrel
     have HBW:=Jh hbw
     by_cases hlt : j < of.length
     ·have hltI : ((j : Nat) : Int) < ((of.length : Nat) : Int):=by omega
      obtain ⟨b,off,k',a1',l1',c1',a2',l2',c2',lo',ls',hi',hs',op',rfl,hbl,c0,d1,c2,c3,c4,c5,c6,c7,hr⟩:=(XRow.up HR.out hbw (Nat.le_refl _)).at j hlt
      have hz:=hbw.size
      have hbl' : b < wr.heap.size:=by omega
      have HC:=Jh (HIH.out of[j] _ wr (hr.up (Below.refl _ _) hz) (HW0.out.trans (HBW.out.mono HW0.out.size)))
      have HTK:=Jh (z06 (allX (z12 names) n) of j hlt)
      have HF : Hid ((allX (z12 names) n) of[j] = false → of.all (allX (z12 names) n) = false):=fun h => List.all_eq_false.2 ⟨_,List.getElem_mem hlt,by simp [h]⟩
      clear hr hbw
      cases qq : (allX (z12 names) n) of[j] with
      | true =>
       have HT' : Hid ((of.take (j + 1)).all (allX (z12 names) n) = true):=by rw [Hid,HTK.out,HT.out]; simp [qq]
       rw [qq] at HC
       clear qq
       go_wp2_with fail
       refine HC.out.mono ?_
       rintro e w3 ⟨rfl,hb3⟩
       have HB3:=Jh (HBW.out.trans (hb3.mono hz))
       have hsz3 : w.heap.size < w3.heap.size:=by have:=hb3.size; omega
       have gbox2:=(hb3.cell (p:=⟨w.heap.size,2,none⟩) hsz).trans hbox2
       clear hb3
       go_wp2_with fail
       go_roundw
       case rel => exact ⟨j + 1,by omega,by go_num,HT',HB3.out,hsz3,gbox2⟩
       case measure => simp [intOf]; omega
      | false =>
       have HNO:=Jh (HF.out qq)
       rw [qq] at HC
       clear qq
       go_wp2_with fail
       refine HC.out.mono ?_
       rintro e w3 ⟨rfl,hb3⟩
       have HB3:=Jh (HBW.out.trans (hb3.mono hz))
       clear hb3
       go_wp2_with fail
       all_goals go_ret
       all_goals exact ⟨z01 (by rw [HA.out,HNO.out,Bool.and_false]),HB3.out⟩
     ·have hje : j = of.length:=by omega
      subst hje
      have hltI : ¬ ((of.length : Nat) : Int) < ((of.length : Nat) : Int):=by omega
      have HALL : Hid (of.all (allX (z12 names) n) = true):=by have h:=HT.out; rw [List.take_length] at h; exact h
      clear HT
      go_wp2_with fail
      all_goals go_ret
      all_goals exact ⟨z01 (by rw [HA.out,HALL1.out,HALL.out]; rfl),HBW.out⟩
def z14 {m : Nat} : (n : Nat) → XT m n → Bool
 | 0,_ => false
 | n + 1,t => (t.1 == 6 && empI t.2.2.2) || t.2.2.1.any (z14 n)
theorem any_of_no {α : Type} {p : α → Bool} {l : List α} (h : l.all (fun x => !p x) = false) : l.any p = true:=by
 rw [List.all_eq_false] at h
 obtain ⟨x,hx,hp⟩:=h
 exact List.any_eq_true.2 ⟨x,hx,by simpa using hp⟩
theorem any_of_all {α : Type} {p : α → Bool} {l : List α} (h : l.all (fun x => !p x) = true) : l.any p = false:=by
 rw [List.all_eq_true] at h
 rw [List.any_eq_false]
 intro x hx
 simpa using h x hx
theorem empty84_any (m n : Nat) : ∀ (t : XT m n) (v : Value) (w : World),XRep w w.heap.size m n t v →
 Calls Tryz.prog 107 #[v] w fun e w' => e = .returned (.bool (z14 n t)) ∧ Below w.heap.size w w':=by
 induction n with
 | zero => intro t v w h; exact h.elim
 | succ n ih =>
  intro t v w h
  obtain ⟨k,is,of,lo,ls,hi,hs,op⟩:=t
  obtain ⟨a1,c1,a,c,rfl,hR1,hR⟩:=h
  dsimp only at hR hR1 ⊢
  have hm:=hR.1
  have hm1:=hR1.1
  have HR:=Jh hR
  have HR1:=Jh hR1
  have HIH:=Jh ih
  have hb0 : Below w.heap.size w (w.alloc (.cells #[.int .u8 k,.slice a1 is.length c1,.slice a of.length c,.int .i64 lo,.bool ls,.int .i64 hi,.bool hs,.bool op] 47)):=(Below.refl _ w).alloc (Nat.le_refl _) _
  have HB0:=Jh hb0
  have HA : Hid (z14 (n + 1) ((k,is,of,⟨lo,ls,hi,hs,op⟩) : XT m (n + 1)) = ((k == 6 && empI ⟨lo,ls,hi,hs,op⟩) || of.any (z14 n))):=rfl
  clear hR hR1 ih hb0
  have hbx : (w.alloc (.cells #[.int .u8 k,.slice a1 is.length c1,.slice a of.length c,.int .i64 lo,.bool ls,.int .i64 hi,.bool hs,.bool op] 47)).cell? ⟨w.heap.size,2,none⟩ = some (.slice a of.length c):=by simp [World.cell?_alloc_at]
  have hsz : w.heap.size < (w.alloc (.cells #[.int .u8 k,.slice a1 is.length c1,.slice a of.length c,.int .i64 lo,.bool ls,.int .i64 hi,.bool hs,.bool op] 47)).heap.size:=by simp
  have HBX:=Jh hbx
  have HSZ:=Jh hsz
  have HEM:=Jh (empty132_any ⟨lo,ls,hi,hs,op⟩ (w.alloc (.cells #[.int .u8 k,.slice a1 is.length c1,.slice a of.length c,.int .i64 lo,.bool ls,.int .i64 hi,.bool hs,.bool op] 47)))
  clear hbx hsz
  by_cases hk : k = 6
  ·subst hk
   cases qe : empI ⟨lo,ls,hi,hs,op⟩ with
   | true =>
    have HQ : Hid (empI ⟨lo,ls,hi,hs,op⟩ = true):=qe
    rw [qe] at HEM
    clear qe
    go_enter Tryz.func107,Tryz.ntmps107
    go_wp2_with fail
    refine HEM.out.mono ?_
    rintro e w1 ⟨rfl,hb1⟩
    have HB1:=Jh (HB0.out.trans (hb1.mono HB0.out.size))
    clear hb1
    go_wp2_with fail
    all_goals go_ret
    all_goals exact ⟨z01 (by rw [HA.out,HQ.out]; rfl),HB1.out⟩
   | false =>
    have HQ : Hid (((6 : Int) == 6 && empI ⟨lo,ls,hi,hs,op⟩) = false):=by rw [Hid,qe]; rfl
    rw [qe] at HEM
    clear qe
    go_enter Tryz.func107,Tryz.ntmps107
    go_wp2_with fail
    refine HEM.out.mono ?_
    rintro e w1 ⟨rfl,hb1⟩
    have HBW0:=Jh (HB0.out.trans (hb1.mono HB0.out.size))
    have hsz0 : w.heap.size < w1.heap.size:=by have:=hb1.size; have:=HSZ.out; omega
    have hbx0:=(hb1.cell (p:=⟨w.heap.size,2,none⟩) HSZ.out).trans HBX.out
    clear hb1
    go_wp2_with fail
    go_loopw [3] (fun i wr => ∃ j : Nat,j ≤ of.length ∧ i = .int .i64 j ∧ Hid ((of.take j).all (fun x => !(z14 n) x) = true) ∧ Below w.heap.size w wr ∧ w.heap.size < wr.heap.size ∧ wr.cell? ⟨w.heap.size,2,none⟩ = some (.slice a of.length c)) (fun i _ => of.length - (intOf i).toNat)
    case atStart => exact ⟨0,Nat.zero_le _,rfl,by simp [Hid],HBW0.out,hsz0,hbx0⟩
    case round =>
     obtain ⟨j,hj,rfl,HT,hbw,hsz,hbox2⟩:=hrel
     have HBW:=Jh hbw
     by_cases hlt : j < of.length
     ·have hltI : ((j : Nat) : Int) < ((of.length : Nat) : Int):=by omega
      obtain ⟨b,off,k',a1',l1',c1',a2',l2',c2',lo',ls',hi',hs',op',rfl,hbl,c0,d1,c2,c3,c4,c5,c6,c7,hr⟩:=(XRow.up HR.out hbw (Nat.le_refl _)).at j hlt
      have hz:=hbw.size
      have hbl' : b < wr.heap.size:=by omega
      have HC:=Jh (HIH.out of[j] _ wr (hr.up (Below.refl _ _) hz))
      have HTK:=Jh (z06 (fun x => !(z14 n) x) of j hlt)
      have HF : Hid ((z14 n) of[j] = true → of.all (fun x => !(z14 n) x) = false):=fun h => List.all_eq_false.2 ⟨_,List.getElem_mem hlt,by simp [h]⟩
      clear hr hbw
      cases qq : (z14 n) of[j] with
      | false =>
       have HT' : Hid ((of.take (j + 1)).all (fun x => !(z14 n) x) = true):=by rw [Hid,HTK.out,HT.out]; simp [qq]
       rw [qq] at HC
       clear qq
       go_wp2_with fail
       refine HC.out.mono ?_
       rintro e w3 ⟨rfl,hb3⟩
       have HB3:=Jh (HBW.out.trans (hb3.mono hz))
       have hsz3 : w.heap.size < w3.heap.size:=by have:=hb3.size; omega
       have gbox2:=(hb3.cell (p:=⟨w.heap.size,2,none⟩) hsz).trans hbox2
       clear hb3
       go_wp2_with fail
       go_roundw
       case rel => exact ⟨j + 1,by omega,by go_num,HT',HB3.out,hsz3,gbox2⟩
       case measure => simp [intOf]; omega
      | true =>
       have HNO:=Jh (HF.out qq)
       rw [qq] at HC
       clear qq
       go_wp2_with fail
       refine HC.out.mono ?_
       rintro e w3 ⟨rfl,hb3⟩
       have HB3:=Jh (HBW.out.trans (hb3.mono hz))
       clear hb3
       go_wp2_with fail
       all_goals go_ret
       all_goals exact ⟨z01 (by rw [HA.out,any_of_no HNO.out,Bool.or_true]),HB3.out⟩
     ·have hje : j = of.length:=by omega
      subst hje
      have hltI : ¬ ((of.length : Nat) : Int) < ((of.length : Nat) : Int):=by omega
      have HALL : Hid (of.all (fun x => !(z14 n) x) = true):=by have h:=HT.out; rw [List.take_length] at h; exact h
      clear HT
      go_wp2_with fail
      all_goals go_ret
      all_goals exact ⟨z01 (by rw [HA.out,HQ.out,any_of_all HALL.out]; rfl),HBW.out⟩
  ·have q1 : (k == 6) = false:=by simpa using hk
   have HQ : Hid ((k == 6 && empI ⟨lo,ls,hi,hs,op⟩) = false):=by rw [Hid,q1]; rfl
   have HBW0:=HB0
   have hsz0:=HSZ.out
   have hbx0:=HBX.out
   clear hk
   go_enter Tryz.func107,Tryz.ntmps107
   go_wp2_with fail
   go_loopw [3] (fun i wr => ∃ j : Nat,j ≤ of.length ∧ i = .int .i64 j ∧ Hid ((of.take j).all (fun x => !(z14 n) x) = true) ∧ Below w.heap.size w wr ∧ w.heap.size < wr.heap.size ∧ wr.cell? ⟨w.heap.size,2,none⟩ = some (.slice a of.length c)) (fun i _ => of.length - (intOf i).toNat)
   case atStart => exact ⟨0,Nat.zero_le _,rfl,by simp [Hid],HBW0.out,hsz0,hbx0⟩
   case round =>
    obtain ⟨j,hj,rfl,HT,hbw,hsz,hbox2⟩:=hrel
    have HBW:=Jh hbw
    by_cases hlt : j < of.length
    ·have hltI : ((j : Nat) : Int) < ((of.length : Nat) : Int):=by omega
     obtain ⟨b,off,k',a1',l1',c1',a2',l2',c2',lo',ls',hi',hs',op',rfl,hbl,c0,d1,c2,c3,c4,c5,c6,c7,hr⟩:=(XRow.up HR.out hbw (Nat.le_refl _)).at j hlt
     have hz:=hbw.size
     have hbl' : b < wr.heap.size:=by omega
     have HC:=Jh (HIH.out of[j] _ wr (hr.up (Below.refl _ _) hz))
     have HTK:=Jh (z06 (fun x => !(z14 n) x) of j hlt)
     have HF : Hid ((z14 n) of[j] = true → of.all (fun x => !(z14 n) x) = false):=fun h => List.all_eq_false.2 ⟨_,List.getElem_mem hlt,by simp [h]⟩
     clear hr hbw
     cases qq : (z14 n) of[j] with
     | false =>
      have HT' : Hid ((of.take (j + 1)).all (fun x => !(z14 n) x) = true):=by rw [Hid,HTK.out,HT.out]; simp [qq]
      rw [qq] at HC
      clear qq
      go_wp2_with fail
      refine HC.out.mono ?_
      rintro e w3 ⟨rfl,hb3⟩
      have HB3:=Jh (HBW.out.trans (hb3.mono hz))
      have hsz3 : w.heap.size < w3.heap.size:=by have:=hb3.size; omega
      have gbox2:=(hb3.cell (p:=⟨w.heap.size,2,none⟩) hsz).trans hbox2
      clear hb3
      go_wp2_with fail
      go_roundw
      case rel => exact ⟨j + 1,by omega,by go_num,HT',HB3.out,hsz3,gbox2⟩
      case measure => simp [intOf]; omega
     | true =>
      have HNO:=Jh (HF.out qq)
      rw [qq] at HC
      clear qq
      go_wp2_with fail
      refine HC.out.mono ?_
      rintro e w3 ⟨rfl,hb3⟩
      have HB3:=Jh (HBW.out.trans (hb3.mono hz))
      clear hb3
      go_wp2_with fail
      all_goals go_ret
      all_goals exact ⟨z01 (by rw [HA.out,any_of_no HNO.out,Bool.or_true]),HB3.out⟩
    ·have hje : j = of.length:=by omega
     subst hje
     have hltI : ¬ ((of.length : Nat) : Int) < ((of.length : Nat) : Int):=by omega
     have HALL : Hid (of.all (fun x => !(z14 n) x) = true):=by have h:=HT.out; rw [List.take_length] at h; exact h
     clear HT
     go_wp2_with fail
     all_goals go_ret
     all_goals exact ⟨z01 (by rw [HA.out,HQ.out,any_of_all HALL.out]; rfl),HBW.out⟩
def z2j : (n : Nat) → FT n → Int → Int
 | 0,_,_ => 1
 | n + 1,t,most => szL (z2j n) most t.2.2 1
theorem nodes130_any (n : Nat) : ∀ (t : FT n) (v : Value) (most : Int) (w : World),FRep w w.heap.size n t v →
 Calls Tryz.prog 163 #[v,.int .i64 most] w fun e w' => e = .returned (.int .i64 (z2j n t most)) ∧ Below w.heap.size w w':=by
 induction n with
 | zero => intro t v most w h; exact h.elim
 | succ n ih =>
  intro t v most w h
  obtain ⟨k,s,of⟩:=t
  obtain ⟨a,c,rfl,hR⟩:=h
  dsimp only at hR ⊢
  have hm:=hR.1
  have HR:=Jh hR
  have IH:=Jh ih
  have HE : Hid (z2j (n + 1) (k,s,of) most = szL (z2j n) most (of.drop 0) 1):=rfl
  have HZ : Hid (Below w.heap.size w (w.alloc (.cells #[.int .u8 k,.string s,.slice a of.length c] 25))):=(Below.refl _ _).alloc (Nat.le_refl _) _
  clear hR ih
  go_enter Tryz.func163,Tryz.ntmps163
  go_wp2_with fail
  go_loopw [5,6] (fun q i wr => ∃ (j : Nat) (z : Int),j ≤ of.length ∧ i = .int .i64 j ∧ q = .int .i64 z ∧ Hid (z2j (n + 1) (k,s,of) most = szL (z2j n) most (of.drop j) z) ∧ Below w.heap.size w wr ∧ w.heap.size < wr.heap.size ∧ wr.cell? ⟨w.heap.size,2,none⟩ = some (.slice a of.length c)) (fun _ i _ => of.length - (intOf i).toNat)
  case atStart => exact ⟨0,_,Nat.zero_le _,rfl,rfl,HE,HZ.out,by simp,by simp [World.cell?_alloc_at]⟩
  case round =>
   obtain ⟨j,z,hj,rfl,rfl,HT,hbw,hsz,hbox⟩:=hrel
   have HBW:=Jh hbw
   by_cases hlt : j < of.length
   ·by_cases hq : z ≤ most
    ·obtain ⟨b,off,k',s',sa,sl,sc,rfl,hbl,c0,c1,c2,hr⟩:=(FRow.up HR.out hbw (Nat.le_refl _)).at j hlt
     have hz:=hbw.size
     have hbl' : b < wr.heap.size:=by omega
     have hS:=Jh (z62 (z2j n) most of j z hlt hq)
     have HC:=Jh (IH.out of[j] _ (wrap64 (most - z)) wr (hr.up (Below.refl _ _) hz))
     clear hr hbw
     go_wp2_with fail
     refine HC.out.mono ?_
     rintro e w3 ⟨rfl,hb4⟩
     have HB4:=Jh (HBW.out.trans (hb4.mono hz))
     have hbox3:=(hb4.cell (p:=⟨w.heap.size,2,none⟩) hsz).trans hbox
     have hsz3 : w.heap.size < w3.heap.size:=by have:=hb4.size; omega
     clear hb4
     go_wp2_with fail
     go_roundw
     case rel => exact ⟨j + 1,_,by omega,by go_num,rfl,HT.out.trans hS.out,HB4.out,hsz3,hbox3⟩
     case measure => simp [intOf]; omega
    ·have hS:=Jh (z5z (z2j n) most (of.drop j) z hq)
     clear hbw
     go_wp2_with fail
     all_goals go_ret
     all_goals exact ⟨z0u (by rw [HT.out,hS.out]),HBW.out⟩
   ·have hje : j = of.length:=by omega
    subst hje
    have hS:=Jh (szL_end (z2j n) most z of)
    clear hbw
    go_wp2_with fail
    all_goals go_ret
    all_goals exact ⟨z0u (by rw [HT.out,hS.out]),HBW.out⟩
end Go.Proofs.YtockinpjfhhkoaaGreatDoor
