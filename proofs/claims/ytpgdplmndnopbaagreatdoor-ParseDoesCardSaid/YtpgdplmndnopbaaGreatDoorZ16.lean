/- The book of layer 16: names that are declared, how many nodes there are, what is empty. (Printed by gen_bke.py.) -/
import Derived.Test.YtpgdplmndnopbaaGreatDoorZ15
import Derived.Test.YtpgdplmndnopbaaGreatDoorZ02
import Derived.Test.YtpgdplmndnopbaaGreatDoorZ14
set_option maxRecDepth 100000
set_option maxHeartbeats 16000000
namespace Go.Proofs.YtpgdplmndnopbaaGreatDoor
open Go.RowKit
theorem idx_neg (s : ByteArray) (l : List ByteArray) : decide (idxN s l < 0) = !inN s l:=by
 unfold idxN inN
 cases hf : l.findIdx? (fun x => s.toList == x.toList) with
 | none =>
  rw [List.findIdx?_eq_none_iff] at hf
  have : (l.any fun x => s.toList == x.toList) = false:=by
   rw [List.any_eq_false]; intro x hx; simpa using hf x hx
  rw [this]; rfl
 | some k =>
  rw [List.findIdx?_eq_some_iff_getElem] at hf
  obtain ⟨hk,h1,_⟩:=hf
  have : (l.any fun x => s.toList == x.toList) = true:=List.any_eq_true.2 ⟨_,List.getElem_mem hk,h1⟩
  rw [this]
  show decide (((k : Nat) : Int) < 0) = _
  simp
theorem z6o (names : List ByteArray) (nv : Value) (w0 : World) (hn : NRep w0 w0.heap.size nv names) (n : Nat) : ∀ (t : FT n) (v : Value) (w : World),FRep w w.heap.size n t v → Below w0.heap.size w0 w →
 Calls Tryz.prog 131 #[nv,v] w fun e w' => e = .returned (.bool (allF (z1n names) n t)) ∧ Below w.heap.size w w':=by
 have HN:=Lib.hid hn
 clear hn
 induction n with
 | zero => intro t v w h; exact h.elim
 | succ n ih =>
  intro t v w h hw0
  obtain ⟨k,s,of⟩:=t
  obtain ⟨a,c,rfl,hR⟩:=h
  have hR : FRow w w.heap.size n a of:=hR
  dsimp only
  have HIH:=Lib.hid ih
  have HR:=Lib.hid hR
  have HW0:=Lib.hid hw0
  have hm:=hR.1
  have hb0 : Below w.heap.size w (w.alloc (.cells #[.int .u8 k,.string s,.slice a of.length c] 61)):=(Below.refl _ w).alloc (Nat.le_refl _) _
  have HB0:=Lib.hid hb0
  have HA : Hid (allF (z1n names) (n + 1) (k,s,of) = (z1n names k s of.length && of.all (allF (z1n names) n))):=rfl
  have HAT:=Lib.hid (at96_any names nv s (w.alloc (.cells #[.int .u8 k,.string s,.slice a of.length c] 61)) (HN.out.up (hw0.trans (hb0.mono hw0.size)) (by have:=hw0.size; simp; omega)))
  clear hR ih hb0 hw0
  by_cases hk : k = 3
  ·subst hk
   have HI:=Lib.hid (idx_neg s names)
   cases qi : inN s names with
   | true =>
    have HD : Hid (z1n names 3 s of.length = true):=by rw [Hid]; unfold z1n; rw [qi]; rfl
    have q1 : ¬ idxN s names < 0:=by have h:=HI.out; rw [qi] at h; simpa using h
    clear qi
    generalize idxN s names = z at HAT q1
    clear HI
    go_enter Tryz.func131,Tryz.ntmps131
    go_wp2_with fail
    refine HAT.out.mono ?_
    rintro e w' ⟨rfl,rfl⟩
    go_wp2_with fail
    go_loopw [5] (fun i wr => ∃ j : Nat,j ≤ of.length ∧ i = .int .i64 j ∧ Hid ((of.take j).all (allF (z1n names) n) = true) ∧ Below w.heap.size w wr ∧ w.heap.size < wr.heap.size ∧ wr.cell? ⟨w.heap.size,2,none⟩ = some (.slice a of.length c)) (fun i _ => of.length - (intOf i).toNat)
    case atStart => exact ⟨0,Nat.zero_le _,rfl,by simp [Hid],HB0.out,by simp,by simp [World.cell?_alloc_at]⟩
    case round =>
     obtain ⟨j,hj,rfl,HT,hbw,hsz,hbox2⟩:=hrel
     have HBW:=Lib.hid hbw
     by_cases hlt : j < of.length
     ·have hltI : ((j : Nat) : Int) < ((of.length : Nat) : Int):=by omega
      obtain ⟨b,off,k',s',sa,sl,sc,rfl,hbl,c0,c1,c2,hr⟩:=(FRow.up HR.out hbw (Nat.le_refl _)).at j hlt
      have hz:=hbw.size
      have hbl' : b < wr.heap.size:=by omega
      have HC:=Lib.hid (HIH.out of[j] _ wr (hr.up (Below.refl _ _) hz) (HW0.out.trans (HBW.out.mono HW0.out.size)))
      have HTK:=Lib.hid (z0l (allF (z1n names) n) of j hlt)
      have HF : Hid ((allF (z1n names) n) of[j] = false → of.all (allF (z1n names) n) = false):=fun h => List.all_eq_false.2 ⟨_,List.getElem_mem hlt,by simp [h]⟩
      clear hr hbw
      cases qq : (allF (z1n names) n) of[j] with
      | true =>
       have HT' : Hid ((of.take (j + 1)).all (allF (z1n names) n) = true):=by rw [Hid,HTK.out,HT.out]; simp [qq]
       rw [qq] at HC
       clear qq
       go_wp2_with fail
       refine HC.out.mono ?_
       rintro e w3 ⟨rfl,hb3⟩
       have HB3:=Lib.hid (HBW.out.trans (hb3.mono hz))
       have hsz3 : w.heap.size < w3.heap.size:=by have:=hb3.size; omega
       have gbox2:=(hb3.cell (p:=⟨w.heap.size,2,none⟩) hsz).trans hbox2
       clear hb3
       go_wp2_with fail
       go_roundw
       case rel => exact ⟨j + 1,by omega,by go_num,HT',HB3.out,hsz3,gbox2⟩
       case measure => simp [intOf]; omega
      | false =>
       have HNO:=Lib.hid (HF.out qq)
       rw [qq] at HC
       clear qq
       go_wp2_with fail
       refine HC.out.mono ?_
       rintro e w3 ⟨rfl,hb3⟩
       have HB3:=Lib.hid (HBW.out.trans (hb3.mono hz))
       clear hb3
       go_wp2_with fail
       all_goals go_ret
       all_goals exact ⟨z00 (by rw [HA.out,HNO.out,Bool.and_false]),HB3.out⟩
     ·have hje : j = of.length:=by omega
      subst hje
      have hltI : ¬ ((of.length : Nat) : Int) < ((of.length : Nat) : Int):=by omega
      have HALL : Hid (of.all (allF (z1n names) n) = true):=by have h:=HT.out; rw [List.take_length] at h; exact h
      clear HT
      go_wp2_with fail
      all_goals go_ret
      all_goals exact ⟨z00 (by rw [HA.out,HD.out,HALL.out]; rfl),HBW.out⟩
   | false =>
    have HD : Hid (z1n names 3 s of.length = false):=by rw [Hid]; unfold z1n; rw [qi]; rfl
    have q1 : idxN s names < 0:=by have h:=HI.out; rw [qi] at h; simpa using h
    clear qi
    generalize idxN s names = z at HAT q1
    clear HI
    go_enter Tryz.func131,Tryz.ntmps131
    go_wp2_with fail
    refine HAT.out.mono ?_
    rintro e w' ⟨rfl,rfl⟩
    go_wp2_with fail
    all_goals go_ret
    all_goals exact ⟨z00 (by rw [HA.out,HD.out,Bool.false_and]),HB0.out⟩
  ·have q1 : (k == 3) = false:=by simpa using hk
   have HD : Hid (z1n names k s of.length = true):=by rw [Hid]; unfold z1n; simp [hk]
   clear hk
   go_enter Tryz.func131,Tryz.ntmps131
   go_wp2_with fail
   go_loopw [5] (fun i wr => ∃ j : Nat,j ≤ of.length ∧ i = .int .i64 j ∧ Hid ((of.take j).all (allF (z1n names) n) = true) ∧ Below w.heap.size w wr ∧ w.heap.size < wr.heap.size ∧ wr.cell? ⟨w.heap.size,2,none⟩ = some (.slice a of.length c)) (fun i _ => of.length - (intOf i).toNat)
   case atStart => exact ⟨0,Nat.zero_le _,rfl,by simp [Hid],HB0.out,by simp,by simp [World.cell?_alloc_at]⟩
   case round =>
    obtain ⟨j,hj,rfl,HT,hbw,hsz,hbox2⟩:=hrel
    have HBW:=Lib.hid hbw
    by_cases hlt : j < of.length
    ·have hltI : ((j : Nat) : Int) < ((of.length : Nat) : Int):=by omega
     obtain ⟨b,off,k',s',sa,sl,sc,rfl,hbl,c0,c1,c2,hr⟩:=(FRow.up HR.out hbw (Nat.le_refl _)).at j hlt
     have hz:=hbw.size
     have hbl' : b < wr.heap.size:=by omega
     have HC:=Lib.hid (HIH.out of[j] _ wr (hr.up (Below.refl _ _) hz) (HW0.out.trans (HBW.out.mono HW0.out.size)))
     have HTK:=Lib.hid (z0l (allF (z1n names) n) of j hlt)
     have HF : Hid ((allF (z1n names) n) of[j] = false → of.all (allF (z1n names) n) = false):=fun h => List.all_eq_false.2 ⟨_,List.getElem_mem hlt,by simp [h]⟩
     clear hr hbw
     cases qq : (allF (z1n names) n) of[j] with
     | true =>
      have HT' : Hid ((of.take (j + 1)).all (allF (z1n names) n) = true):=by rw [Hid,HTK.out,HT.out]; simp [qq]
      rw [qq] at HC
      clear qq
      go_wp2_with fail
      refine HC.out.mono ?_
      rintro e w3 ⟨rfl,hb3⟩
      have HB3:=Lib.hid (HBW.out.trans (hb3.mono hz))
      have hsz3 : w.heap.size < w3.heap.size:=by have:=hb3.size; omega
      have gbox2:=(hb3.cell (p:=⟨w.heap.size,2,none⟩) hsz).trans hbox2
      clear hb3
      go_wp2_with fail
      go_roundw
      case rel => exact ⟨j + 1,by omega,by go_num,HT',HB3.out,hsz3,gbox2⟩
      case measure => simp [intOf]; omega
     | false =>
      have HNO:=Lib.hid (HF.out qq)
      rw [qq] at HC
      clear qq
      go_wp2_with fail
      refine HC.out.mono ?_
      rintro e w3 ⟨rfl,hb3⟩
      have HB3:=Lib.hid (HBW.out.trans (hb3.mono hz))
      clear hb3
      go_wp2_with fail
      all_goals go_ret
      all_goals exact ⟨z00 (by rw [HA.out,HNO.out,Bool.and_false]),HB3.out⟩
    ·have hje : j = of.length:=by omega
     subst hje
     have hltI : ¬ ((of.length : Nat) : Int) < ((of.length : Nat) : Int):=by omega
     have HALL : Hid (of.all (allF (z1n names) n) = true):=by have h:=HT.out; rw [List.take_length] at h; exact h
     clear HT
     go_wp2_with fail
     all_goals go_ret
     all_goals exact ⟨z00 (by rw [HA.out,HD.out,HALL.out]; rfl),HBW.out⟩
theorem known83_any (names : List ByteArray) (nv : Value) (w0 : World) (hn : NRep w0 w0.heap.size nv names) (m n : Nat) : ∀ (t : XT m n) (v : Value) (w : World),XRep w w.heap.size m n t v → Below w0.heap.size w0 w →
 Calls Tryz.prog 83 #[nv,v] w fun e w' => e = .returned (.bool (allX (z28 names) n t)) ∧ Below w.heap.size w w':=by
 have HN:=Lib.hid hn
 clear hn
 induction n with
 | zero => intro t v w h; exact h.elim
 | succ n ih =>
  intro t v w h hw0
  obtain ⟨k,is,of,lo,ls,hi,hs,op⟩:=t
  obtain ⟨a1,c1,a,c,rfl,hR1,hR⟩:=h
  dsimp only at hR hR1 ⊢
  have hm:=hR.1
  have hm1:=hR1.1
  have HR:=Lib.hid hR
  have HR1:=Lib.hid hR1
  have HIH:=Lib.hid ih
  have hb0 : Below w.heap.size w (w.alloc (.cells #[.int .u8 k,.slice a1 is.length c1,.slice a of.length c,.int .i64 lo,.bool ls,.int .i64 hi,.bool hs,.bool op] 28)):=(Below.refl _ w).alloc (Nat.le_refl _) _
  have HB0:=Lib.hid hb0
  have HW0:=Lib.hid hw0
  have HA : Hid (allX (z28 names) (n + 1) ((k,is,of,⟨lo,ls,hi,hs,op⟩) : XT m (n + 1)) = (is.all (allF (z1n names) m) && of.all (allX (z28 names) n))):=rfl
  clear hR hR1 ih hb0 hw0
  go_enter Tryz.func83,Tryz.ntmps83
  go_wp2_with fail
  go_loopw [5] (fun i wr => ∃ j : Nat,j ≤ is.length ∧ i = .int .i64 j ∧ Hid ((is.take j).all (allF (z1n names) m) = true) ∧ Below w.heap.size w wr ∧ w.heap.size < wr.heap.size ∧ wr.cell? ⟨w.heap.size,1,none⟩ = some (.slice a1 is.length c1) ∧ wr.cell? ⟨w.heap.size,2,none⟩ = some (.slice a of.length c)) (fun i _ => is.length - (intOf i).toNat)
  case atStart => exact ⟨0,Nat.zero_le _,rfl,by simp [Hid],HB0.out,by simp,by simp [World.cell?_alloc_at],by simp [World.cell?_alloc_at]⟩
  case round =>
   obtain ⟨j,hj,rfl,HT,hbw,hsz,hbox1,hbox2⟩:=hrel
   have HBW:=Lib.hid hbw
   by_cases hlt : j < is.length
   ·have hltI : ((j : Nat) : Int) < ((is.length : Nat) : Int):=by omega
    obtain ⟨b,off,k',s',sa,sl,sc,rfl,hbl,c0,c1,c2,hr⟩:=(FRow.up HR1.out hbw (Nat.le_refl _)).at j hlt
    have hz:=hbw.size
    have hbl' : b < wr.heap.size:=by omega
    have HC:=Lib.hid (z6o names nv w0 HN.out m is[j] _ wr (hr.up (Below.refl _ _) hz) (HW0.out.trans (HBW.out.mono HW0.out.size)))
    have HTK:=Lib.hid (z0l (allF (z1n names) m) is j hlt)
    have HF : Hid ((allF (z1n names) m) is[j] = false → is.all (allF (z1n names) m) = false):=fun h => List.all_eq_false.2 ⟨_,List.getElem_mem hlt,by simp [h]⟩
    clear hr hbw
    cases qq : (allF (z1n names) m) is[j] with
    | true =>
     have HT' : Hid ((is.take (j + 1)).all (allF (z1n names) m) = true):=by rw [Hid,HTK.out,HT.out]; simp [qq]
     rw [qq] at HC
     clear qq
     go_wp2_with fail
     refine HC.out.mono ?_
     rintro e w3 ⟨rfl,hb3⟩
     have HB3:=Lib.hid (HBW.out.trans (hb3.mono hz))
     have hsz3 : w.heap.size < w3.heap.size:=by have:=hb3.size; omega
     have gbox1:=(hb3.cell (p:=⟨w.heap.size,1,none⟩) hsz).trans hbox1
     have gbox2:=(hb3.cell (p:=⟨w.heap.size,2,none⟩) hsz).trans hbox2
     clear hb3
     go_wp2_with fail
     go_roundw
     case rel => exact ⟨j + 1,by omega,by go_num,HT',HB3.out,hsz3,gbox1,gbox2⟩
     case measure => simp [intOf]; omega
    | false =>
     have HNO:=Lib.hid (HF.out qq)
     rw [qq] at HC
     clear qq
     go_wp2_with fail
     refine HC.out.mono ?_
     rintro e w3 ⟨rfl,hb3⟩
     have HB3:=Lib.hid (HBW.out.trans (hb3.mono hz))
     clear hb3
     go_wp2_with fail
     all_goals go_ret
     all_goals exact ⟨z00 (by rw [HA.out,HNO.out,Bool.false_and]),HB3.out⟩
   ·have hje : j = is.length:=by omega
    subst hje
    have hltI : ¬ ((is.length : Nat) : Int) < ((is.length : Nat) : Int):=by omega
    have HALL : Hid (is.all (allF (z1n names) m) = true):=by have h:=HT.out; rw [List.take_length] at h; exact h
    clear HT
    have HALL1:=HALL
    clear HALL hbw
    go_wp2_with fail
    go_loopw [6] (fun i wr => ∃ j : Nat,j ≤ of.length ∧ i = .int .i64 j ∧ Hid ((of.take j).all (allX (z28 names) n) = true) ∧ Below w.heap.size w wr ∧ w.heap.size < wr.heap.size ∧ wr.cell? ⟨w.heap.size,2,none⟩ = some (.slice a of.length c)) (fun i _ => of.length - (intOf i).toNat)
    case atStart => exact ⟨0,Nat.zero_le _,rfl,by simp [Hid],HBW.out,hsz,hbox2⟩
    case round =>
     clear HBW hsz hbox1 hbox2 hj hltI
     obtain ⟨j,hj,rfl,HT,hbw,hsz,hbox2⟩:=hrel
     have HBW:=Lib.hid hbw
     by_cases hlt : j < of.length
     ·have hltI : ((j : Nat) : Int) < ((of.length : Nat) : Int):=by omega
      obtain ⟨b,off,k',a1',l1',c1',a2',l2',c2',lo',ls',hi',hs',op',rfl,hbl,c0,d1,c2,c3,c4,c5,c6,c7,hr⟩:=(XRow.up HR.out hbw (Nat.le_refl _)).at j hlt
      have hz:=hbw.size
      have hbl' : b < wr.heap.size:=by omega
      have HC:=Lib.hid (HIH.out of[j] _ wr (hr.up (Below.refl _ _) hz) (HW0.out.trans (HBW.out.mono HW0.out.size)))
      have HTK:=Lib.hid (z0l (allX (z28 names) n) of j hlt)
      have HF : Hid ((allX (z28 names) n) of[j] = false → of.all (allX (z28 names) n) = false):=fun h => List.all_eq_false.2 ⟨_,List.getElem_mem hlt,by simp [h]⟩
      clear hr hbw
      cases qq : (allX (z28 names) n) of[j] with
      | true =>
       have HT' : Hid ((of.take (j + 1)).all (allX (z28 names) n) = true):=by rw [Hid,HTK.out,HT.out]; simp [qq]
       rw [qq] at HC
       clear qq
       go_wp2_with fail
       refine HC.out.mono ?_
       rintro e w3 ⟨rfl,hb3⟩
       have HB3:=Lib.hid (HBW.out.trans (hb3.mono hz))
       have hsz3 : w.heap.size < w3.heap.size:=by have:=hb3.size; omega
       have gbox2:=(hb3.cell (p:=⟨w.heap.size,2,none⟩) hsz).trans hbox2
       clear hb3
       go_wp2_with fail
       go_roundw
       case rel => exact ⟨j + 1,by omega,by go_num,HT',HB3.out,hsz3,gbox2⟩
       case measure => simp [intOf]; omega
      | false =>
       have HNO:=Lib.hid (HF.out qq)
       rw [qq] at HC
       clear qq
       go_wp2_with fail
       refine HC.out.mono ?_
       rintro e w3 ⟨rfl,hb3⟩
       have HB3:=Lib.hid (HBW.out.trans (hb3.mono hz))
       clear hb3
       go_wp2_with fail
       all_goals go_ret
       all_goals exact ⟨z00 (by rw [HA.out,HNO.out,Bool.and_false]),HB3.out⟩
     ·have hje : j = of.length:=by omega
      subst hje
      have hltI : ¬ ((of.length : Nat) : Int) < ((of.length : Nat) : Int):=by omega
      have HALL : Hid (of.all (allX (z28 names) n) = true):=by have h:=HT.out; rw [List.take_length] at h; exact h
      clear HT
      go_wp2_with fail
      all_goals go_ret
      all_goals exact ⟨z00 (by rw [HA.out,HALL1.out,HALL.out]; rfl),HBW.out⟩
def z29 {m : Nat} : (n : Nat) → XT m n → Bool
 | 0,_ => false
 | n + 1,t => (t.1 == 6 && empI t.2.2.2) || t.2.2.1.any (z29 n)
theorem any_of_no {α : Type} {p : α → Bool} {l : List α} (h : l.all (fun x => !p x) = false) : l.any p = true:=by
 rw [List.all_eq_false] at h
 obtain ⟨x,hx,hp⟩:=h
 exact List.any_eq_true.2 ⟨x,hx,by simpa using hp⟩
theorem any_of_all {α : Type} {p : α → Bool} {l : List α} (h : l.all (fun x => !p x) = true) : l.any p = false:=by
 rw [List.all_eq_true] at h
 rw [List.any_eq_false]
 intro x hx
 simpa using h x hx
theorem empty84_any (m n : Nat) : ∀ (t : XT m n) (v : Value) (w : World),XRep w w.heap.size m n t v →
 Calls Tryz.prog 84 #[v] w fun e w' => e = .returned (.bool (z29 n t)) ∧ Below w.heap.size w w':=by
 induction n with
 | zero => intro t v w h; exact h.elim
 | succ n ih =>
  intro t v w h
  obtain ⟨k,is,of,lo,ls,hi,hs,op⟩:=t
  obtain ⟨a1,c1,a,c,rfl,hR1,hR⟩:=h
  dsimp only at hR hR1 ⊢
  have hm:=hR.1
  have hm1:=hR1.1
  have HR:=Lib.hid hR
  have HR1:=Lib.hid hR1
  have HIH:=Lib.hid ih
  have hb0 : Below w.heap.size w (w.alloc (.cells #[.int .u8 k,.slice a1 is.length c1,.slice a of.length c,.int .i64 lo,.bool ls,.int .i64 hi,.bool hs,.bool op] 28)):=(Below.refl _ w).alloc (Nat.le_refl _) _
  have HB0:=Lib.hid hb0
  have HA : Hid (z29 (n + 1) ((k,is,of,⟨lo,ls,hi,hs,op⟩) : XT m (n + 1)) = ((k == 6 && empI ⟨lo,ls,hi,hs,op⟩) || of.any (z29 n))):=rfl
  clear hR hR1 ih hb0
  have hbx : (w.alloc (.cells #[.int .u8 k,.slice a1 is.length c1,.slice a of.length c,.int .i64 lo,.bool ls,.int .i64 hi,.bool hs,.bool op] 28)).cell? ⟨w.heap.size,2,none⟩ = some (.slice a of.length c):=by simp [World.cell?_alloc_at]
  have hsz : w.heap.size < (w.alloc (.cells #[.int .u8 k,.slice a1 is.length c1,.slice a of.length c,.int .i64 lo,.bool ls,.int .i64 hi,.bool hs,.bool op] 28)).heap.size:=by simp
  have HBX:=Lib.hid hbx
  have HSZ:=Lib.hid hsz
  have HEM:=Lib.hid (empty132_any ⟨lo,ls,hi,hs,op⟩ (w.alloc (.cells #[.int .u8 k,.slice a1 is.length c1,.slice a of.length c,.int .i64 lo,.bool ls,.int .i64 hi,.bool hs,.bool op] 28)))
  clear hbx hsz
  by_cases hk : k = 6
  ·subst hk
   cases qe : empI ⟨lo,ls,hi,hs,op⟩ with
   | true =>
    have HQ : Hid (empI ⟨lo,ls,hi,hs,op⟩ = true):=qe
    rw [qe] at HEM
    clear qe
    go_enter Tryz.func84,Tryz.ntmps84
    go_wp2_with fail
    refine HEM.out.mono ?_
    rintro e w1 ⟨rfl,hb1⟩
    have HB1:=Lib.hid (HB0.out.trans (hb1.mono HB0.out.size))
    clear hb1
    go_wp2_with fail
    all_goals go_ret
    all_goals exact ⟨z00 (by rw [HA.out,HQ.out]; rfl),HB1.out⟩
   | false =>
    have HQ : Hid (((6 : Int) == 6 && empI ⟨lo,ls,hi,hs,op⟩) = false):=by rw [Hid,qe]; rfl
    rw [qe] at HEM
    clear qe
    go_enter Tryz.func84,Tryz.ntmps84
    go_wp2_with fail
    refine HEM.out.mono ?_
    rintro e w1 ⟨rfl,hb1⟩
    have HBW0:=Lib.hid (HB0.out.trans (hb1.mono HB0.out.size))
    have hsz0 : w.heap.size < w1.heap.size:=by have:=hb1.size; have:=HSZ.out; omega
    have hbx0:=(hb1.cell (p:=⟨w.heap.size,2,none⟩) HSZ.out).trans HBX.out
    clear hb1
    go_wp2_with fail
    go_loopw [3] (fun i wr => ∃ j : Nat,j ≤ of.length ∧ i = .int .i64 j ∧ Hid ((of.take j).all (fun x => !(z29 n) x) = true) ∧ Below w.heap.size w wr ∧ w.heap.size < wr.heap.size ∧ wr.cell? ⟨w.heap.size,2,none⟩ = some (.slice a of.length c)) (fun i _ => of.length - (intOf i).toNat)
    case atStart => exact ⟨0,Nat.zero_le _,rfl,by simp [Hid],HBW0.out,hsz0,hbx0⟩
    case round =>
     obtain ⟨j,hj,rfl,HT,hbw,hsz,hbox2⟩:=hrel
     have HBW:=Lib.hid hbw
     by_cases hlt : j < of.length
     ·have hltI : ((j : Nat) : Int) < ((of.length : Nat) : Int):=by omega
      obtain ⟨b,off,k',a1',l1',c1',a2',l2',c2',lo',ls',hi',hs',op',rfl,hbl,c0,d1,c2,c3,c4,c5,c6,c7,hr⟩:=(XRow.up HR.out hbw (Nat.le_refl _)).at j hlt
      have hz:=hbw.size
      have hbl' : b < wr.heap.size:=by omega
      have HC:=Lib.hid (HIH.out of[j] _ wr (hr.up (Below.refl _ _) hz))
      have HTK:=Lib.hid (z0l (fun x => !(z29 n) x) of j hlt)
      have HF : Hid ((z29 n) of[j] = true → of.all (fun x => !(z29 n) x) = false):=fun h => List.all_eq_false.2 ⟨_,List.getElem_mem hlt,by simp [h]⟩
      clear hr hbw
      cases qq : (z29 n) of[j] with
      | false =>
       have HT' : Hid ((of.take (j + 1)).all (fun x => !(z29 n) x) = true):=by rw [Hid,HTK.out,HT.out]; simp [qq]
       rw [qq] at HC
       clear qq
       go_wp2_with fail
       refine HC.out.mono ?_
       rintro e w3 ⟨rfl,hb3⟩
       have HB3:=Lib.hid (HBW.out.trans (hb3.mono hz))
       have hsz3 : w.heap.size < w3.heap.size:=by have:=hb3.size; omega
       have gbox2:=(hb3.cell (p:=⟨w.heap.size,2,none⟩) hsz).trans hbox2
       clear hb3
       go_wp2_with fail
       go_roundw
       case rel => exact ⟨j + 1,by omega,by go_num,HT',HB3.out,hsz3,gbox2⟩
       case measure => simp [intOf]; omega
      | true =>
       have HNO:=Lib.hid (HF.out qq)
       rw [qq] at HC
       clear qq
       go_wp2_with fail
       refine HC.out.mono ?_
       rintro e w3 ⟨rfl,hb3⟩
       have HB3:=Lib.hid (HBW.out.trans (hb3.mono hz))
       clear hb3
       go_wp2_with fail
       all_goals go_ret
       all_goals exact ⟨z00 (by rw [HA.out,any_of_no HNO.out,Bool.or_true]),HB3.out⟩
     ·have hje : j = of.length:=by omega
      subst hje
      have hltI : ¬ ((of.length : Nat) : Int) < ((of.length : Nat) : Int):=by omega
      have HALL : Hid (of.all (fun x => !(z29 n) x) = true):=by have h:=HT.out; rw [List.take_length] at h; exact h
      clear HT
      go_wp2_with fail
      all_goals go_ret
      all_goals exact ⟨z00 (by rw [HA.out,HQ.out,any_of_all HALL.out]; rfl),HBW.out⟩
  ·have q1 : (k == 6) = false:=by simpa using hk
   have HQ : Hid ((k == 6 && empI ⟨lo,ls,hi,hs,op⟩) = false):=by rw [Hid,q1]; rfl
   have HBW0:=HB0
   have hsz0:=HSZ.out
   have hbx0:=HBX.out
   clear hk
   go_enter Tryz.func84,Tryz.ntmps84
   go_wp2_with fail
   go_loopw [3] (fun i wr => ∃ j : Nat,j ≤ of.length ∧ i = .int .i64 j ∧ Hid ((of.take j).all (fun x => !(z29 n) x) = true) ∧ Below w.heap.size w wr ∧ w.heap.size < wr.heap.size ∧ wr.cell? ⟨w.heap.size,2,none⟩ = some (.slice a of.length c)) (fun i _ => of.length - (intOf i).toNat)
   case atStart => exact ⟨0,Nat.zero_le _,rfl,by simp [Hid],HBW0.out,hsz0,hbx0⟩
   case round =>
    obtain ⟨j,hj,rfl,HT,hbw,hsz,hbox2⟩:=hrel
    have HBW:=Lib.hid hbw
    by_cases hlt : j < of.length
    ·have hltI : ((j : Nat) : Int) < ((of.length : Nat) : Int):=by omega
     obtain ⟨b,off,k',a1',l1',c1',a2',l2',c2',lo',ls',hi',hs',op',rfl,hbl,c0,d1,c2,c3,c4,c5,c6,c7,hr⟩:=(XRow.up HR.out hbw (Nat.le_refl _)).at j hlt
     have hz:=hbw.size
     have hbl' : b < wr.heap.size:=by omega
     have HC:=Lib.hid (HIH.out of[j] _ wr (hr.up (Below.refl _ _) hz))
     have HTK:=Lib.hid (z0l (fun x => !(z29 n) x) of j hlt)
     have HF : Hid ((z29 n) of[j] = true → of.all (fun x => !(z29 n) x) = false):=fun h => List.all_eq_false.2 ⟨_,List.getElem_mem hlt,by simp [h]⟩
     clear hr hbw
     cases qq : (z29 n) of[j] with
     | false =>
      have HT' : Hid ((of.take (j + 1)).all (fun x => !(z29 n) x) = true):=by rw [Hid,HTK.out,HT.out]; simp [qq]
      rw [qq] at HC
      clear qq
      go_wp2_with fail
      refine HC.out.mono ?_
      rintro e w3 ⟨rfl,hb3⟩
      have HB3:=Lib.hid (HBW.out.trans (hb3.mono hz))
      have hsz3 : w.heap.size < w3.heap.size:=by have:=hb3.size; omega
      have gbox2:=(hb3.cell (p:=⟨w.heap.size,2,none⟩) hsz).trans hbox2
      clear hb3
      go_wp2_with fail
      go_roundw
      case rel => exact ⟨j + 1,by omega,by go_num,HT',HB3.out,hsz3,gbox2⟩
      case measure => simp [intOf]; omega
     | true =>
      have HNO:=Lib.hid (HF.out qq)
      rw [qq] at HC
      clear qq
      go_wp2_with fail
      refine HC.out.mono ?_
      rintro e w3 ⟨rfl,hb3⟩
      have HB3:=Lib.hid (HBW.out.trans (hb3.mono hz))
      clear hb3
      go_wp2_with fail
      all_goals go_ret
      all_goals exact ⟨z00 (by rw [HA.out,any_of_no HNO.out,Bool.or_true]),HB3.out⟩
    ·have hje : j = of.length:=by omega
     subst hje
     have hltI : ¬ ((of.length : Nat) : Int) < ((of.length : Nat) : Int):=by omega
     have HALL : Hid (of.all (fun x => !(z29 n) x) = true):=by have h:=HT.out; rw [List.take_length] at h; exact h
     clear HT
     go_wp2_with fail
     all_goals go_ret
     all_goals exact ⟨z00 (by rw [HA.out,HQ.out,any_of_all HALL.out]; rfl),HBW.out⟩
def z3u : (n : Nat) → FT n → Int → Int
 | 0,_,_ => 1
 | n + 1,t,most => szL (z3u n) most t.2.2 1
theorem nodes130_any (n : Nat) : ∀ (t : FT n) (v : Value) (most : Int) (w : World),FRep w w.heap.size n t v →
 Calls Tryz.prog 130 #[v,.int .i64 most] w fun e w' => e = .returned (.int .i64 (z3u n t most)) ∧ Below w.heap.size w w':=by
 induction n with
 | zero => intro t v most w h; exact h.elim
 | succ n ih =>
  intro t v most w h
  obtain ⟨k,s,of⟩:=t
  obtain ⟨a,c,rfl,hR⟩:=h
  dsimp only at hR ⊢
  have hm:=hR.1
  have HR:=Lib.hid hR
  have IH:=Lib.hid ih
  have HE : Hid (z3u (n + 1) (k,s,of) most = szL (z3u n) most (of.drop 0) 1):=rfl
  have HZ : Hid (Below w.heap.size w (w.alloc (.cells #[.int .u8 k,.string s,.slice a of.length c] 61))):=(Below.refl _ _).alloc (Nat.le_refl _) _
  clear hR ih
  go_enter Tryz.func130,Tryz.ntmps130
  go_wp2_with fail
  go_loopw [5,6] (fun q i wr => ∃ (j : Nat) (z : Int),j ≤ of.length ∧ i = .int .i64 j ∧ q = .int .i64 z ∧ Hid (z3u (n + 1) (k,s,of) most = szL (z3u n) most (of.drop j) z) ∧ Below w.heap.size w wr ∧ w.heap.size < wr.heap.size ∧ wr.cell? ⟨w.heap.size,2,none⟩ = some (.slice a of.length c)) (fun _ i _ => of.length - (intOf i).toNat)
  case atStart => exact ⟨0,_,Nat.zero_le _,rfl,rfl,HE,HZ.out,by simp,by simp [World.cell?_alloc_at]⟩
  case round =>
   obtain ⟨j,z,hj,rfl,rfl,HT,hbw,hsz,hbox⟩:=hrel
   have HBW:=Lib.hid hbw
   by_cases hlt : j < of.length
   ·by_cases hq : z ≤ most
    ·obtain ⟨b,off,k',s',sa,sl,sc,rfl,hbl,c0,c1,c2,hr⟩:=(FRow.up HR.out hbw (Nat.le_refl _)).at j hlt
     have hz:=hbw.size
     have hbl' : b < wr.heap.size:=by omega
     have hS:=Lib.hid (szL_drop (z3u n) most of j z hlt hq)
     have HC:=Lib.hid (IH.out of[j] _ (wrap64 (most - z)) wr (hr.up (Below.refl _ _) hz))
     clear hr hbw
     go_wp2_with fail
     refine HC.out.mono ?_
     rintro e w3 ⟨rfl,hb4⟩
     have HB4:=Lib.hid (HBW.out.trans (hb4.mono hz))
     have hbox3:=(hb4.cell (p:=⟨w.heap.size,2,none⟩) hsz).trans hbox
     have hsz3 : w.heap.size < w3.heap.size:=by have:=hb4.size; omega
     clear hb4
     go_wp2_with fail
     go_roundw
     case rel => exact ⟨j + 1,_,by omega,by go_num,rfl,HT.out.trans hS.out,HB4.out,hsz3,hbox3⟩
     case measure => simp [intOf]; omega
    ·have hS:=Lib.hid (szL_stop (z3u n) most (of.drop j) z hq)
     clear hbw
     go_wp2_with fail
     all_goals go_ret
     all_goals exact ⟨z2q (by rw [HT.out,hS.out]),HBW.out⟩
   ·have hje : j = of.length:=by omega
    subst hje
    have hS:=Lib.hid (szL_end (z3u n) most z of)
    clear hbw
    go_wp2_with fail
    all_goals go_ret
    all_goals exact ⟨z2q (by rw [HT.out,hS.out]),HBW.out⟩
end Go.Proofs.YtpgdplmndnopbaaGreatDoor
namespace Go.Proofs.YtpgdplmndnopbaaGreatDoor
open Go.RowKit
def SaysP (p : Prop) (e : Ending) : Prop:=∃ b : Bool,e = .returned (.bool b) ∧ (b = true ↔ p)
theorem SaysP.mk {p : Prop} {b : Bool} {e : Ending} (h : e = .returned (.bool b)) (hb : b = true ↔ p) : SaysP p e:=⟨b,h,hb⟩
theorem z2w {w : World} {o : Obj} {k : Nat} (h : k = w.heap.size) : (w.alloc o).heap[k]? = some o:=by subst h; exact Array.getElem?_push_size
theorem sm_in {w : World} {o x : Obj} {k : Nat} (h : w.heap[k]? = some x) : (w.alloc o).heap[k]? = some x :=
 (Lib.alloc_old w o k (Array.getElem?_eq_some_iff.1 h).1).trans h
end Go.Proofs.YtpgdplmndnopbaaGreatDoor
