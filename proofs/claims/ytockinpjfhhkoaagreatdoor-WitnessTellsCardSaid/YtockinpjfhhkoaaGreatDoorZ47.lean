/- The book of layer 16: expressions that are made right. (Printed by gen_bkf.py.) -/
import Derived.Test.YtockinpjfhhkoaaGreatDoorZ30
import Derived.Test.YtockinpjfhhkoaaGreatDoorZ08
set_option maxRecDepth 100000
set_option maxHeartbeats 16000000
open Go.Lib renaming hid → Jh
namespace Go.Proofs.YtockinpjfhhkoaaGreatDoor
open Go.RowKit
def
 z5u (m n : Nat) : Prop:=∀ (t : XT m n) (v : Value) (w : World),XRep w w.heap.size m n t v →
 Calls Tryz.prog 104 #[v] w fun e w' => e = .returned (.bool (allX z02 n t)) ∧ Below w.heap.size w w'
theorem rightX_out {m : Nat} {k : Int} (is : List (FT m)) (l : Nat) (i : Spn) (h : k < 1 ∨ 6 < k) : z02 k is l i = false:=by
 have : (decide (1 ≤ k) && decide (k ≤ 6)) = false:=by rcases h with h | h <;> simp <;> omega
 unfold z02; rw [this]; simp
theorem rightX_one {m : Nat} (is : List (FT m)) (l : Nat) (i : Spn) : z02 1 is l i = (is.length == 1 && l == 0 && decide (i = noSpan) && is.all (allF z04 m)):=by
 have e : (i != noSpan) = !decide (i = noSpan):=rfl
 unfold z02
 rw [e,if_pos rfl,show (l == z0m 1) = (l == 0) from rfl]
 generalize is.all (allF z04 m) = b4
 generalize (is.length == 1) = b1
 generalize decide (i = noSpan) = b3
 generalize (l == 0) = b2
 generalize (ivR i == 8) = b5
 cases b1 <;> cases b2 <;> cases b3 <;> cases b4 <;> rfl
theorem z3k {m : Nat} {k : Int} (hk : k = 2 ∨ k = 3 ∨ k = 4 ∨ k = 5) (is : List (FT m)) (l : Nat) (i : Spn) : z02 k is l i = (is.length == 0 && (l == z0m k) && decide (i = noSpan)):=by
 have e : (i != noSpan) = !decide (i = noSpan):=rfl
 have hk1 : ¬ k = 1:=by omega
 unfold z02
 rw [e,if_neg hk1]
 generalize (is.length == 0) = b1
 generalize decide (i = noSpan) = b3
 generalize (l == z0m k) = b2
 generalize (ivR i == 8) = b5
 rcases hk with rfl | rfl | rfl | rfl
 all_goals cases b1 <;> cases b2 <;> cases b3 <;> rfl
theorem rightX_six {m : Nat} (is : List (FT m)) (l : Nat) (i : Spn) : z02 6 is l i = (is.length == 0 && (l == 1) && mayI i):=by
 rw [mayI_iv]
 unfold z02
 rw [if_neg (by omega),show (l == z0m 6) = (l == 1) from rfl]
 generalize (is.length == 0) = b1
 generalize (l == 1) = b2
 generalize (ivR i == 8) = b5
 generalize (i != noSpan) = b6
 cases b1 <;> cases b2 <;> cases b5 <;> rfl
theorem right81_out (m n : Nat) (ih : z5u m n) (k : Int) (hk : k < 1 ∨ 6 < k) (is : List (FT m)) (of : List (XT m n)) (a1 a : Option Addr) (c1 c : Nat) (lo hi : Int) (ls hs op : Bool) (w : World) (hR1 : FRow w w.heap.size m a1 is) (hR : XRow w w.heap.size m n a of) :
 Calls Tryz.prog 104 #[.agg #[.int .u8 k,.slice a1 is.length c1,.slice a of.length c,.int .i64 lo,.bool ls,.int .i64 hi,.bool hs,.bool op]] w fun e w' => e = .returned (.bool (allX z02 (n + 1) ((k,is,of,⟨lo,ls,hi,hs,op⟩) : XT m (n + 1)))) ∧ Below w.heap.size w w':=by
 have hm:=hR.1
 have hm1:=hR1.1
 have HR:=Jh hR
 have HR1:=Jh hR1
 have HIH:=Jh ih
 have hb0 : Below w.heap.size w (w.alloc (.cells #[.int .u8 k,.slice a1 is.length c1,.slice a of.length c,.int .i64 lo,.bool ls,.int .i64 hi,.bool hs,.bool op] 47)):=(Below.refl _ w).alloc (Nat.le_refl _) _
 have HB0:=Jh hb0
 have HA : Hid (allX z02 (n + 1) ((k,is,of,⟨lo,ls,hi,hs,op⟩) : XT m (n + 1)) = (z02 k is of.length ⟨lo,ls,hi,hs,op⟩ && of.all (allX z02 n))):=rfl
 clear hR hR1 ih hb0
 have HQ : Hid (z02 k is of.length ⟨lo,ls,hi,hs,op⟩ = false):=rightX_out is of.length _ hk
 have q1 : (k == 1) = false:=by simp; omega
 have q5 : (k == 5) = false:=by simp; omega
 have q6 : (k == 6) = false:=by simp; omega
 rcases hk with hk | hk
 ·clear q1 q5 q6
  have q1 : (k == 1) = false:=by simp; omega
  have q5 : (k == 5) = false:=by simp; omega
  have q6 : (k == 6) = false:=by simp; omega
  go_enter Tryz.func104,Tryz.ntmps104
  go_wp2_with fail
  all_goals go_ret
  all_goals exact ⟨z01 (by rw [HA.out,HQ.out,Bool.false_and]),HB0.out⟩
 ·have qn : ¬ k < 1:=by omega
  go_enter Tryz.func104,Tryz.ntmps104
  go_wp2_with fail
  all_goals go_ret
  all_goals exact ⟨z01 (by rw [HA.out,HQ.out,Bool.false_and]),HB0.out⟩
theorem right81_one (m n : Nat) (ih : z5u m n) (is : List (FT m)) (of : List (XT m n)) (a1 a : Option Addr) (c1 c : Nat) (lo hi : Int) (ls hs op : Bool) (w : World) (hR1 : FRow w w.heap.size m a1 is) (hR : XRow w w.heap.size m n a of) :
 Calls Tryz.prog 104 #[.agg #[.int .u8 1,.slice a1 is.length c1,.slice a of.length c,.int .i64 lo,.bool ls,.int .i64 hi,.bool hs,.bool op]] w fun e w' => e = .returned (.bool (allX z02 (n + 1) ((1,is,of,⟨lo,ls,hi,hs,op⟩) : XT m (n + 1)))) ∧ Below w.heap.size w w':=by
 have hm:=hR.1
 have hm1:=hR1.1
 have HR:=Jh hR
 have HR1:=Jh hR1
 have HIH:=Jh ih
 have hb0 : Below w.heap.size w (w.alloc (.cells #[.int .u8 1,.slice a1 is.length c1,.slice a of.length c,.int .i64 lo,.bool ls,.int .i64 hi,.bool hs,.bool op] 47)):=(Below.refl _ w).alloc (Nat.le_refl _) _
 have HB0:=Jh hb0
 have HA : Hid (allX z02 (n + 1) ((1,is,of,⟨lo,ls,hi,hs,op⟩) : XT m (n + 1)) = (z02 1 is of.length ⟨lo,ls,hi,hs,op⟩ && of.all (allX z02 n))):=rfl
 clear hR hR1 ih hb0
 have H1:=Jh (rightX_one is of.length ⟨lo,ls,hi,hs,op⟩)
 by_cases hl : is.length = 1
 ·by_cases hl2 : of.length = 0
  ·by_cases hsp : (⟨lo,ls,hi,hs,op⟩ : Spn) = ⟨0,false,0,false,false⟩
   ·have h0 : 0 < is.length:=by omega
    have HQ : Hid (allX z02 (n + 1) ((1,is,of,⟨lo,ls,hi,hs,op⟩) : XT m (n + 1)) = allF z04 m is[0]):=by
     have hz : of = []:=List.length_eq_zero_iff.1 hl2
     have e1 : is.all (allF z04 m) = allF z04 m is[0]:=by
      obtain ⟨f,rfl⟩:=List.length_eq_one_iff.1 hl
      simp
     rw [Hid,HA.out,H1.out,hl,hl2,hz,e1]
     have : decide ((⟨lo,ls,hi,hs,op⟩ : Spn) = noSpan) = true:=by simpa [noSpan] using hsp
     rw [this]; simp
    obtain ⟨b,off,k',s',sa,sl,sc,rfl,hbl,c0,c1',c2,hr⟩:=(HR1.out.up HB0.out (Nat.le_refl _)).at 0 h0
    simp only [Nat.zero_mul,Nat.add_zero] at c0 c1' c2
    have hbl' : b < (w.alloc (.cells #[.int .u8 1,.slice (some ⟨b,off,none⟩) is.length c1,.slice a of.length c,.int .i64 lo,.bool ls,.int .i64 hi,.bool hs,.bool op] 47)).heap.size:=by simp; omega
    have HC:=Jh (rightF128_any m is[0] _ _ (hr.up (Below.refl _ _) HB0.out.size))
    have g1 : (((is.length : Nat) : Int) == 1) = true:=by simp [hl]
    have g2 : (((of.length : Nat) : Int) == 0) = true:=by rw [hl2]; rfl
    have g4 : (0 : Int) < ((is.length : Nat) : Int):=by omega
    generalize allF z04 m is[0] = r at HC HQ
    clear hr hl hl2 H1
    simp only [Spn.mk.injEq] at hsp
    obtain ⟨rfl,rfl,rfl,rfl,rfl⟩:=hsp
    go_enter Tryz.func104,Tryz.ntmps104
    go_wp2_with fail
    refine HC.out.mono ?_
    rintro e w1 ⟨rfl,hb1⟩
    have HB1:=Jh (HB0.out.trans (hb1.mono HB0.out.size))
    clear hb1
    go_wp2_with fail
    all_goals go_ret
    all_goals exact ⟨z01 (by rw [HQ.out]),HB1.out⟩
   ·have HQ : Hid (z02 1 is of.length ⟨lo,ls,hi,hs,op⟩ = false):=by
     have : decide ((⟨lo,ls,hi,hs,op⟩ : Spn) = noSpan) = false:=by simpa [noSpan] using hsp
     rw [Hid,H1.out,this]; simp
    have g1 : (((is.length : Nat) : Int) == 1) = true:=by simp [hl]
    have g2 : (((of.length : Nat) : Int) == 0) = true:=by rw [hl2]; rfl
    clear hl hl2 H1
    have hc : lo ≠ 0 ∨ (lo = 0 ∧ ls = true) ∨ (lo = 0 ∧ ls = false ∧ hi ≠ 0) ∨ (lo = 0 ∧ ls = false ∧ hi = 0 ∧ hs = true) ∨ (lo = 0 ∧ ls = false ∧ hi = 0 ∧ hs = false ∧ op = true):=by
     simp only [Spn.mk.injEq,not_and] at hsp
     by_cases h1 : lo = 0 <;> cases ls <;> by_cases h3 : hi = 0 <;> cases hs <;> cases op <;> simp_all
    clear hsp
    rcases hc with hq | ⟨rfl,rfl⟩ | ⟨rfl,rfl,hq⟩ | ⟨rfl,rfl,rfl,rfl⟩ | ⟨rfl,rfl,rfl,rfl,rfl⟩
    all_goals
     go_enter Tryz.func104,Tryz.ntmps104
     go_wp2_with fail
     go_ret
     exact ⟨z01 (by rw [HA.out,HQ.out,Bool.false_and]),HB0.out⟩
  ·have HQ : Hid (z02 1 is of.length ⟨lo,ls,hi,hs,op⟩ = false):=by
    have : (of.length == 0) = false:=by simpa using hl2
    rw [Hid,H1.out,this]; simp
   have g1 : (((is.length : Nat) : Int) == 1) = true:=by simp [hl]
   have g2 : (((of.length : Nat) : Int) == 0) = false:=by rw [len0]; simpa using hl2
   clear hl hl2 H1
   go_enter Tryz.func104,Tryz.ntmps104
   go_wp2_with fail
   all_goals go_ret
   all_goals exact ⟨z01 (by rw [HA.out,HQ.out,Bool.false_and]),HB0.out⟩
 ·have HQ : Hid (z02 1 is of.length ⟨lo,ls,hi,hs,op⟩ = false):=by
   have : (is.length == 1) = false:=by simpa using hl
   rw [Hid,H1.out,this]; simp
  have g1 : (((is.length : Nat) : Int) == 1) = false:=by rw [beq_eq_false_iff_ne]; omega
  clear hl H1
  go_enter Tryz.func104,Tryz.ntmps104
  go_wp2_with fail
  all_goals go_ret
  all_goals exact ⟨z01 (by rw [HA.out,HQ.out,Bool.false_and]),HB0.out⟩
theorem right81_2 (m n : Nat) (ih : z5u m n) (is : List (FT m)) (of : List (XT m n)) (a1 a : Option Addr) (c1 c : Nat) (lo hi : Int) (ls hs op : Bool) (w : World) (hR1 : FRow w w.heap.size m a1 is) (hR : XRow w w.heap.size m n a of) :
 Calls Tryz.prog 104 #[.agg #[.int .u8 2,.slice a1 is.length c1,.slice a of.length c,.int .i64 lo,.bool ls,.int .i64 hi,.bool hs,.bool op]] w fun e w' => e = .returned (.bool (allX z02 (n + 1) ((2,is,of,⟨lo,ls,hi,hs,op⟩) : XT m (n + 1)))) ∧ Below w.heap.size w w':=by
 have hm:=hR.1
 have hm1:=hR1.1
 have HR:=Jh hR
 have HR1:=Jh hR1
 have HIH:=Jh ih
 have hb0 : Below w.heap.size w (w.alloc (.cells #[.int .u8 2,.slice a1 is.length c1,.slice a of.length c,.int .i64 lo,.bool ls,.int .i64 hi,.bool hs,.bool op] 47)):=(Below.refl _ w).alloc (Nat.le_refl _) _
 have HB0:=Jh hb0
 have HA : Hid (allX z02 (n + 1) ((2,is,of,⟨lo,ls,hi,hs,op⟩) : XT m (n + 1)) = (z02 2 is of.length ⟨lo,ls,hi,hs,op⟩ && of.all (allX z02 n))):=rfl
 clear hR hR1 ih hb0
 have H1 : Hid (z02 2 is of.length ⟨lo,ls,hi,hs,op⟩ = (is.length == 0 && (of.length == 2) && decide ((⟨lo,ls,hi,hs,op⟩ : Spn) = noSpan))):=z3k (by omega) is of.length ⟨lo,ls,hi,hs,op⟩
 by_cases hl : is.length = 0
 ·have g1 : (((is.length : Nat) : Int) != 0) = false:=by simp [hl]
  by_cases hl2 : of.length = 2
  ·have g2 : (((of.length : Nat) : Int) != 2) = false:=by rw [bne_eq_false_iff_eq]; omega
   by_cases hsp : (⟨lo,ls,hi,hs,op⟩ : Spn) = ⟨0,false,0,false,false⟩
   ·have HQ : Hid (z02 2 is of.length ⟨lo,ls,hi,hs,op⟩ = true):=by
     have : decide ((⟨lo,ls,hi,hs,op⟩ : Spn) = noSpan) = true:=by simpa [noSpan] using hsp
     rw [Hid,H1.out,hl,hl2,this]; rfl
    clear hl hl2 H1
    simp only [Spn.mk.injEq] at hsp
    obtain ⟨rfl,rfl,rfl,rfl,rfl⟩:=hsp
    go_enter Tryz.func104,Tryz.ntmps104
    go_wp2_with fail
    go_loopw [4] (fun i wr => ∃ j : Nat,j ≤ of.length ∧ i = .int .i64 j ∧ Hid ((of.take j).all (allX z02 n) = true) ∧ Below w.heap.size w wr ∧ w.heap.size < wr.heap.size ∧ wr.cell? ⟨w.heap.size,2,none⟩ = some (.slice a of.length c)) (fun i _ => of.length - (intOf i).toNat)
    case atStart => exact ⟨0,Nat.zero_le _,rfl,by simp [Hid],HB0.out,by simp,by simp [World.cell?_alloc_at]⟩
    case round =>
     obtain ⟨j,hj,rfl,HT,hbw,hsz,hbox2⟩:=hrel
     have HBW:=Jh hbw
     by_cases hlt : j < of.length
     ·have hltI : ((j : Nat) : Int) < ((of.length : Nat) : Int):=by omega
      obtain ⟨b,off,k',a1',l1',c1',a2',l2',c2',lo',ls',hi',hs',op',rfl,hbl,c0,d1,c2,c3,c4,c5,c6,c7,hr⟩:=(XRow.up HR.out hbw (Nat.le_refl _)).at j hlt
      have hz:=hbw.size
      have hbl' : b < wr.heap.size:=by omega
      have HC:=Jh (HIH.out of[j] _ wr (hr.up (Below.refl _ _) hz))
      have HTK:=Jh (z06 (allX z02 n) of j hlt)
      have HF : Hid ((allX z02 n) of[j] = false → of.all (allX z02 n) = false):=fun h => List.all_eq_false.2 ⟨_,List.getElem_mem hlt,by simp [h]⟩
      clear hr hbw
      cases qq : (allX z02 n) of[j] with
      | true =>
       have HT' : Hid ((of.take (j + 1)).all (allX z02 n) = true):=by rw [Hid,HTK.out,HT.out]; simp [qq]
       rw [qq] at HC
       clear qq
       go_wp2_with fail
       refine HC.out.mono ?_
       rintro e w3 ⟨rfl,hb3⟩
       have HB3:=Jh (HBW.out.trans (hb3.mono hz))
       have hsz3 : w.heap.size < w3.heap.size:=by have:=hb3.size; omega
       have gbox2:=(hb3.cell (p:=⟨w.heap.size,2,none⟩) hsz).trans hbox2
       clear hb3
       go_wp2_with fail
       go_roundw
       case rel => exact ⟨j + 1,by omega,by go_num,HT',HB3.out,hsz3,gbox2⟩
       case measure => simp [intOf]; omega
      | false =>
       have HNO:=Jh (HF.out qq)
       rw [qq] at HC
       clear qq
       go_wp2_with fail
       refine HC.out.mono ?_
       rintro e w3 ⟨rfl,hb3⟩
       have HB3:=Jh (HBW.out.trans (hb3.mono hz))
       clear hb3
       go_wp2_with fail
       all_goals go_ret
       all_goals exact ⟨z01 (by rw [HA.out,HNO.out,Bool.and_false]),HB3.out⟩
     ·have hje : j = of.length:=by omega
      subst hje
      have hltI : ¬ ((of.length : Nat) : Int) < ((of.length : Nat) : Int):=by omega
      have HALL : Hid (of.all (allX z02 n) = true):=by have h:=HT.out; rw [List.take_length] at h; exact h
      clear HT
      go_wp2_with fail
      all_goals go_ret
      all_goals exact ⟨z01 (by rw [HA.out,HQ.out,HALL.out]; rfl),HBW.out⟩
   ·have HQ : Hid (z02 2 is of.length ⟨lo,ls,hi,hs,op⟩ = false):=by
     have : decide ((⟨lo,ls,hi,hs,op⟩ : Spn) = noSpan) = false:=by simpa [noSpan] using hsp
     rw [Hid,H1.out,this]; simp
    clear hl hl2 H1
    have hc : lo ≠ 0 ∨ (lo = 0 ∧ ls = true) ∨ (lo = 0 ∧ ls = false ∧ hi ≠ 0) ∨ (lo = 0 ∧ ls = false ∧ hi = 0 ∧ hs = true) ∨ (lo = 0 ∧ ls = false ∧ hi = 0 ∧ hs = false ∧ op = true):=by
     simp only [Spn.mk.injEq,not_and] at hsp
     by_cases h1 : lo = 0 <;> cases ls <;> by_cases h3 : hi = 0 <;> cases hs <;> cases op <;> simp_all
    clear hsp
    rcases hc with hq | ⟨rfl,rfl⟩ | ⟨rfl,rfl,hq⟩ | ⟨rfl,rfl,rfl,rfl⟩ | ⟨rfl,rfl,rfl,rfl,rfl⟩
    all_goals
     go_enter Tryz.func104,Tryz.ntmps104
     go_wp2_with fail
     go_ret
     exact ⟨z01 (by rw [HA.out,HQ.out,Bool.false_and]),HB0.out⟩
  ·have g2 : (((of.length : Nat) : Int) != 2) = true:=by rw [bne_iff_ne]; omega
   have HQ : Hid (z02 2 is of.length ⟨lo,ls,hi,hs,op⟩ = false):=by
    have : (of.length == 2) = false:=by simpa using hl2
    rw [Hid,H1.out,this]; simp
   clear hl hl2 H1
   go_enter Tryz.func104,Tryz.ntmps104
   go_wp2_with fail
   all_goals go_ret
   all_goals exact ⟨z01 (by rw [HA.out,HQ.out,Bool.false_and]),HB0.out⟩
 ·have g1 : (((is.length : Nat) : Int) != 0) = true:=by rw [bne_iff_ne]; omega
  have HQ : Hid (z02 2 is of.length ⟨lo,ls,hi,hs,op⟩ = false):=by
   have : (is.length == 0) = false:=by simpa using hl
   rw [Hid,H1.out,this]; rfl
  clear hl H1
  go_enter Tryz.func104,Tryz.ntmps104
  go_wp2_with fail
  all_goals go_ret
  all_goals exact ⟨z01 (by rw [HA.out,HQ.out,Bool.false_and]),HB0.out⟩
theorem right81_3 (m n : Nat) (ih : z5u m n) (is : List (FT m)) (of : List (XT m n)) (a1 a : Option Addr) (c1 c : Nat) (lo hi : Int) (ls hs op : Bool) (w : World) (hR1 : FRow w w.heap.size m a1 is) (hR : XRow w w.heap.size m n a of) :
 Calls Tryz.prog 104 #[.agg #[.int .u8 3,.slice a1 is.length c1,.slice a of.length c,.int .i64 lo,.bool ls,.int .i64 hi,.bool hs,.bool op]] w fun e w' => e = .returned (.bool (allX z02 (n + 1) ((3,is,of,⟨lo,ls,hi,hs,op⟩) : XT m (n + 1)))) ∧ Below w.heap.size w w':=by
 have hm:=hR.1
 have hm1:=hR1.1
 have HR:=Jh hR
 have HR1:=Jh hR1
 have HIH:=Jh ih
 have hb0 : Below w.heap.size w (w.alloc (.cells #[.int .u8 3,.slice a1 is.length c1,.slice a of.length c,.int .i64 lo,.bool ls,.int .i64 hi,.bool hs,.bool op] 47)):=(Below.refl _ w).alloc (Nat.le_refl _) _
 have HB0:=Jh hb0
 have HA : Hid (allX z02 (n + 1) ((3,is,of,⟨lo,ls,hi,hs,op⟩) : XT m (n + 1)) = (z02 3 is of.length ⟨lo,ls,hi,hs,op⟩ && of.all (allX z02 n))):=rfl
 clear hR hR1 ih hb0
 have H1 : Hid (z02 3 is of.length ⟨lo,ls,hi,hs,op⟩ = (is.length == 0 && (of.length == 2) && decide ((⟨lo,ls,hi,hs,op⟩ : Spn) = noSpan))):=z3k (by omega) is of.length ⟨lo,ls,hi,hs,op⟩
 by_cases hl : is.length = 0
 ·have g1 : (((is.length : Nat) : Int) != 0) = false:=by simp [hl]
  by_cases hl2 : of.length = 2
  ·have g2 : (((of.length : Nat) : Int) != 2) = false:=by rw [bne_eq_false_iff_eq]; omega
   by_cases hsp : (⟨lo,ls,hi,hs,op⟩ : Spn) = ⟨0,false,0,false,false⟩
   ·have HQ : Hid (z02 3 is of.length ⟨lo,ls,hi,hs,op⟩ = true):=by
     have : decide ((⟨lo,ls,hi,hs,op⟩ : Spn) = noSpan) = true:=by simpa [noSpan] using hsp
     rw [Hid,H1.out,hl,hl2,this]; rfl
    clear hl hl2 H1
    simp only [Spn.mk.injEq] at hsp
    obtain ⟨rfl,rfl,rfl,rfl,rfl⟩:=hsp
    go_enter Tryz.func104,Tryz.ntmps104
    go_wp2_with fail
    go_loopw [4] (fun i wr => ∃ j : Nat,j ≤ of.length ∧ i = .int .i64 j ∧ Hid ((of.take j).all (allX z02 n) = true) ∧ Below w.heap.size w wr ∧ w.heap.size < wr.heap.size ∧ wr.cell? ⟨w.heap.size,2,none⟩ = some (.slice a of.length c)) (fun i _ => of.length - (intOf i).toNat)
    case atStart => exact ⟨0,Nat.zero_le _,rfl,by simp [Hid],HB0.out,by simp,by simp [World.cell?_alloc_at]⟩
    case round =>
     obtain ⟨j,hj,rfl,HT,hbw,hsz,hbox2⟩:=hrel
     have HBW:=Jh hbw
     by_cases hlt : j < of.length
     ·have hltI : ((j : Nat) : Int) < ((of.length : Nat) : Int):=by omega
      obtain ⟨b,off,k',a1',l1',c1',a2',l2',c2',lo',ls',hi',hs',op',rfl,hbl,c0,d1,c2,c3,c4,c5,c6,c7,hr⟩:=(XRow.up HR.out hbw (Nat.le_refl _)).at j hlt
      have hz:=hbw.size
      have hbl' : b < wr.heap.size:=by omega
      have HC:=Jh (HIH.out of[j] _ wr (hr.up (Below.refl _ _) hz))
      have HTK:=Jh (z06 (allX z02 n) of j hlt)
      have HF : Hid ((allX z02 n) of[j] = false → of.all (allX z02 n) = false):=fun h => List.all_eq_false.2 ⟨_,List.getElem_mem hlt,by simp [h]⟩
      clear hr hbw
      cases qq : (allX z02 n) of[j] with
      | true =>
       have HT' : Hid ((of.take (j + 1)).all (allX z02 n) = true):=by rw [Hid,HTK.out,HT.out]; simp [qq]
       rw [qq] at HC
       clear qq
       go_wp2_with fail
       refine HC.out.mono ?_
       rintro e w3 ⟨rfl,hb3⟩
       have HB3:=Jh (HBW.out.trans (hb3.mono hz))
       have hsz3 : w.heap.size < w3.heap.size:=by have:=hb3.size; omega
       have gbox2:=(hb3.cell (p:=⟨w.heap.size,2,none⟩) hsz).trans hbox2
       clear hb3
       go_wp2_with fail
       go_roundw
       case rel => exact ⟨j + 1,by omega,by go_num,HT',HB3.out,hsz3,gbox2⟩
       case measure => simp [intOf]; omega
      | false =>
       have HNO:=Jh (HF.out qq)
       rw [qq] at HC
       clear qq
       go_wp2_with fail
       refine HC.out.mono ?_
       rintro e w3 ⟨rfl,hb3⟩
       have HB3:=Jh (HBW.out.trans (hb3.mono hz))
       clear hb3
       go_wp2_with fail
       all_goals go_ret
       all_goals exact ⟨z01 (by rw [HA.out,HNO.out,Bool.and_false]),HB3.out⟩
     ·have hje : j = of.length:=by omega
      subst hje
      have hltI : ¬ ((of.length : Nat) : Int) < ((of.length : Nat) : Int):=by omega
      have HALL : Hid (of.all (allX z02 n) = true):=by have h:=HT.out; rw [List.take_length] at h; exact h
      clear HT
      go_wp2_with fail
      all_goals go_ret
      all_goals exact ⟨z01 (by rw [HA.out,HQ.out,HALL.out]; rfl),HBW.out⟩
   ·have HQ : Hid (z02 3 is of.length ⟨lo,ls,hi,hs,op⟩ = false):=by
     have : decide ((⟨lo,ls,hi,hs,op⟩ : Spn) = noSpan) = false:=by simpa [noSpan] using hsp
     rw [Hid,H1.out,this]; simp
    clear hl hl2 H1
    have hc : lo ≠ 0 ∨ (lo = 0 ∧ ls = true) ∨ (lo = 0 ∧ ls = false ∧ hi ≠ 0) ∨ (lo = 0 ∧ ls = false ∧ hi = 0 ∧ hs = true) ∨ (lo = 0 ∧ ls = false ∧ hi = 0 ∧ hs = false ∧ op = true):=by
     simp only [Spn.mk.injEq,not_and] at hsp
     by_cases h1 : lo = 0 <;> cases ls <;> by_cases h3 : hi = 0 <;> cases hs <;> cases op <;> simp_all
    clear hsp
    rcases hc with hq | ⟨rfl,rfl⟩ | ⟨rfl,rfl,hq⟩ | ⟨rfl,rfl,rfl,rfl⟩ | ⟨rfl,rfl,rfl,rfl,rfl⟩
    all_goals
     go_enter Tryz.func104,Tryz.ntmps104
     go_wp2_with fail
     go_ret
     exact ⟨z01 (by rw [HA.out,HQ.out,Bool.false_and]),HB0.out⟩
  ·have g2 : (((of.length : Nat) : Int) != 2) = true:=by rw [bne_iff_ne]; omega
   have HQ : Hid (z02 3 is of.length ⟨lo,ls,hi,hs,op⟩ = false):=by
    have : (of.length == 2) = false:=by simpa using hl2
    rw [Hid,H1.out,this]; simp
   clear hl hl2 H1
   go_enter Tryz.func104,Tryz.ntmps104
   go_wp2_with fail
   all_goals go_ret
   all_goals exact ⟨z01 (by rw [HA.out,HQ.out,Bool.false_and]),HB0.out⟩
 ·have g1 : (((is.length : Nat) : Int) != 0) = true:=by rw [bne_iff_ne]; omega
  have HQ : Hid (z02 3 is of.length ⟨lo,ls,hi,hs,op⟩ = false):=by
   have : (is.length == 0) = false:=by simpa using hl
   rw [Hid,H1.out,this]; rfl
  clear hl H1
  go_enter Tryz.func104,Tryz.ntmps104
  go_wp2_with fail
  all_goals go_ret
  all_goals exact ⟨z01 (by rw [HA.out,HQ.out,Bool.false_and]),HB0.out⟩
theorem right81_4 (m n : Nat) (ih : z5u m n) (is : List (FT m)) (of : List (XT m n)) (a1 a : Option Addr) (c1 c : Nat) (lo hi : Int) (ls hs op : Bool) (w : World) (hR1 : FRow w w.heap.size m a1 is) (hR : XRow w w.heap.size m n a of) :
 Calls Tryz.prog 104 #[.agg #[.int .u8 4,.slice a1 is.length c1,.slice a of.length c,.int .i64 lo,.bool ls,.int .i64 hi,.bool hs,.bool op]] w fun e w' => e = .returned (.bool (allX z02 (n + 1) ((4,is,of,⟨lo,ls,hi,hs,op⟩) : XT m (n + 1)))) ∧ Below w.heap.size w w':=by
 have hm:=hR.1
 have hm1:=hR1.1
 have HR:=Jh hR
 have HR1:=Jh hR1
 have HIH:=Jh ih
 have hb0 : Below w.heap.size w (w.alloc (.cells #[.int .u8 4,.slice a1 is.length c1,.slice a of.length c,.int .i64 lo,.bool ls,.int .i64 hi,.bool hs,.bool op] 47)):=(Below.refl _ w).alloc (Nat.le_refl _) _
 have HB0:=Jh hb0
 have HA : Hid (allX z02 (n + 1) ((4,is,of,⟨lo,ls,hi,hs,op⟩) : XT m (n + 1)) = (z02 4 is of.length ⟨lo,ls,hi,hs,op⟩ && of.all (allX z02 n))):=rfl
 clear hR hR1 ih hb0
 have H1 : Hid (z02 4 is of.length ⟨lo,ls,hi,hs,op⟩ = (is.length == 0 && (of.length == 2) && decide ((⟨lo,ls,hi,hs,op⟩ : Spn) = noSpan))):=z3k (by omega) is of.length ⟨lo,ls,hi,hs,op⟩
 by_cases hl : is.length = 0
 ·have g1 : (((is.length : Nat) : Int) != 0) = false:=by simp [hl]
  by_cases hl2 : of.length = 2
  ·have g2 : (((of.length : Nat) : Int) != 2) = false:=by rw [bne_eq_false_iff_eq]; omega
   by_cases hsp : (⟨lo,ls,hi,hs,op⟩ : Spn) = ⟨0,false,0,false,false⟩
   ·have HQ : Hid (z02 4 is of.length ⟨lo,ls,hi,hs,op⟩ = true):=by
     have : decide ((⟨lo,ls,hi,hs,op⟩ : Spn) = noSpan) = true:=by simpa [noSpan] using hsp
     rw [Hid,H1.out,hl,hl2,this]; rfl
    clear hl hl2 H1
    simp only [Spn.mk.injEq] at hsp
    obtain ⟨rfl,rfl,rfl,rfl,rfl⟩:=hsp
    go_enter Tryz.func104,Tryz.ntmps104
    go_wp2_with fail
    go_loopw [4] (fun i wr => ∃ j : Nat,j ≤ of.length ∧ i = .int .i64 j ∧ Hid ((of.take j).all (allX z02 n) = true) ∧ Below w.heap.size w wr ∧ w.heap.size < wr.heap.size ∧ wr.cell? ⟨w.heap.size,2,none⟩ = some (.slice a of.length c)) (fun i _ => of.length - (intOf i).toNat)
    case atStart => exact ⟨0,Nat.zero_le _,rfl,by simp [Hid],HB0.out,by simp,by simp [World.cell?_alloc_at]⟩
    case round =>
     obtain ⟨j,hj,rfl,HT,hbw,hsz,hbox2⟩:=hrel
     have HBW:=Jh hbw
     by_cases hlt : j < of.length
     ·have hltI : ((j : Nat) : Int) < ((of.length : Nat) : Int):=by omega
      obtain ⟨b,off,k',a1',l1',c1',a2',l2',c2',lo',ls',hi',hs',op',rfl,hbl,c0,d1,c2,c3,c4,c5,c6,c7,hr⟩:=(XRow.up HR.out hbw (Nat.le_refl _)).at j hlt
      have hz:=hbw.size
      have hbl' : b < wr.heap.size:=by omega
      have HC:=Jh (HIH.out of[j] _ wr (hr.up (Below.refl _ _) hz))
      have HTK:=Jh (z06 (allX z02 n) of j hlt)
      have HF : Hid ((allX z02 n) of[j] = false → of.all (allX z02 n) = false):=fun h => List.all_eq_false.2 ⟨_,List.getElem_mem hlt,by simp [h]⟩
      clear hr hbw
      cases qq : (allX z02 n) of[j] with
      | true =>
       have HT' : Hid ((of.take (j + 1)).all (allX z02 n) = true):=by rw [Hid,HTK.out,HT.out]; simp [qq]
       rw [qq] at HC
       clear qq
       go_wp2_with fail
       refine HC.out.mono ?_
       rintro e w3 ⟨rfl,hb3⟩
       have HB3:=Jh (HBW.out.trans (hb3.mono hz))
       have hsz3 : w.heap.size < w3.heap.size:=by have:=hb3.size; omega
       have gbox2:=(hb3.cell (p:=⟨w.heap.size,2,none⟩) hsz).trans hbox2
       clear hb3
       go_wp2_with fail
       go_roundw
       case rel => exact ⟨j + 1,by omega,by go_num,HT',HB3.out,hsz3,gbox2⟩
       case measure => simp [intOf]; omega
      | false =>
       have HNO:=Jh (HF.out qq)
       rw [qq] at HC
       clear qq
       go_wp2_with fail
       refine HC.out.mono ?_
       rintro e w3 ⟨rfl,hb3⟩
       have HB3:=Jh (HBW.out.trans (hb3.mono hz))
       clear hb3
       go_wp2_with fail
       all_goals go_ret
       all_goals exact ⟨z01 (by rw [HA.out,HNO.out,Bool.and_false]),HB3.out⟩
     ·have hje : j = of.length:=by omega
      subst hje
      have hltI : ¬ ((of.length : Nat) : Int) < ((of.length : Nat) : Int):=by omega
      have HALL : Hid (of.all (allX z02 n) = true):=by have h:=HT.out; rw [List.take_length] at h; exact h
      clear HT
      go_wp2_with fail
      all_goals go_ret
      all_goals exact ⟨z01 (by rw [HA.out,HQ.out,HALL.out]; rfl),HBW.out⟩
   ·have HQ : Hid (z02 4 is of.length ⟨lo,ls,hi,hs,op⟩ = false):=by
     have : decide ((⟨lo,ls,hi,hs,op⟩ : Spn) = noSpan) = false:=by simpa [noSpan] using hsp
     rw [Hid,H1.out,this]; simp
    clear hl hl2 H1
    have hc : lo ≠ 0 ∨ (lo = 0 ∧ ls = true) ∨ (lo = 0 ∧ ls = false ∧ hi ≠ 0) ∨ (lo = 0 ∧ ls = false ∧ hi = 0 ∧ hs = true) ∨ (lo = 0 ∧ ls = false ∧ hi = 0 ∧ hs = false ∧ op = true):=by
     simp only [Spn.mk.injEq,not_and] at hsp
     by_cases h1 : lo = 0 <;> cases ls <;> by_cases h3 : hi = 0 <;> cases hs <;> cases op <;> simp_all
    clear hsp
    rcases hc with hq | ⟨rfl,rfl⟩ | ⟨rfl,rfl,hq⟩ | ⟨rfl,rfl,rfl,rfl⟩ | ⟨rfl,rfl,rfl,rfl,rfl⟩
    all_goals
     go_enter Tryz.func104,Tryz.ntmps104
     go_wp2_with fail
     go_ret
     exact ⟨z01 (by rw [HA.out,HQ.out,Bool.false_and]),HB0.out⟩
  ·have g2 : (((of.length : Nat) : Int) != 2) = true:=by rw [bne_iff_ne]; omega
   have HQ : Hid (z02 4 is of.length ⟨lo,ls,hi,hs,op⟩ = false):=by
    have : (of.length == 2) = false:=by simpa using hl2
    rw [Hid,H1.out,this]; simp
   clear hl hl2 H1
   go_enter Tryz.func104,Tryz.ntmps104
   go_wp2_with fail
   all_goals go_ret
   all_goals exact ⟨z01 (by rw [HA.out,HQ.out,Bool.false_and]),HB0.out⟩
 ·have g1 : (((is.length : Nat) : Int) != 0) = true:=by rw [bne_iff_ne]; omega
  have HQ : Hid (z02 4 is of.length ⟨lo,ls,hi,hs,op⟩ = false):=by
   have : (is.length == 0) = false:=by simpa using hl
   rw [Hid,H1.out,this]; rfl
  clear hl H1
  go_enter Tryz.func104,Tryz.ntmps104
  go_wp2_with fail
  all_goals go_ret
  all_goals exact ⟨z01 (by rw [HA.out,HQ.out,Bool.false_and]),HB0.out⟩
theorem right81_5 (m n : Nat) (ih : z5u m n) (is : List (FT m)) (of : List (XT m n)) (a1 a : Option Addr) (c1 c : Nat) (lo hi : Int) (ls hs op : Bool) (w : World) (hR1 : FRow w w.heap.size m a1 is) (hR : XRow w w.heap.size m n a of) :
 Calls Tryz.prog 104 #[.agg #[.int .u8 5,.slice a1 is.length c1,.slice a of.length c,.int .i64 lo,.bool ls,.int .i64 hi,.bool hs,.bool op]] w fun e w' => e = .returned (.bool (allX z02 (n + 1) ((5,is,of,⟨lo,ls,hi,hs,op⟩) : XT m (n + 1)))) ∧ Below w.heap.size w w':=by
 have hm:=hR.1
 have hm1:=hR1.1
 have HR:=Jh hR
 have HR1:=Jh hR1
 have HIH:=Jh ih
 have hb0 : Below w.heap.size w (w.alloc (.cells #[.int .u8 5,.slice a1 is.length c1,.slice a of.length c,.int .i64 lo,.bool ls,.int .i64 hi,.bool hs,.bool op] 47)):=(Below.refl _ w).alloc (Nat.le_refl _) _
 have HB0:=Jh hb0
 have HA : Hid (allX z02 (n + 1) ((5,is,of,⟨lo,ls,hi,hs,op⟩) : XT m (n + 1)) = (z02 5 is of.length ⟨lo,ls,hi,hs,op⟩ && of.all (allX z02 n))):=rfl
 clear hR hR1 ih hb0
 have H1 : Hid (z02 5 is of.length ⟨lo,ls,hi,hs,op⟩ = (is.length == 0 && (of.length == 1) && decide ((⟨lo,ls,hi,hs,op⟩ : Spn) = noSpan))):=z3k (by omega) is of.length ⟨lo,ls,hi,hs,op⟩
 by_cases hl : is.length = 0
 ·have g1 : (((is.length : Nat) : Int) != 0) = false:=by simp [hl]
  by_cases hl2 : of.length = 1
  ·have g2 : (((of.length : Nat) : Int) != 1) = false:=by rw [bne_eq_false_iff_eq]; omega
   by_cases hsp : (⟨lo,ls,hi,hs,op⟩ : Spn) = ⟨0,false,0,false,false⟩
   ·have HQ : Hid (z02 5 is of.length ⟨lo,ls,hi,hs,op⟩ = true):=by
     have : decide ((⟨lo,ls,hi,hs,op⟩ : Spn) = noSpan) = true:=by simpa [noSpan] using hsp
     rw [Hid,H1.out,hl,hl2,this]; rfl
    clear hl hl2 H1
    simp only [Spn.mk.injEq] at hsp
    obtain ⟨rfl,rfl,rfl,rfl,rfl⟩:=hsp
    go_enter Tryz.func104,Tryz.ntmps104
    go_wp2_with fail
    go_loopw [4] (fun i wr => ∃ j : Nat,j ≤ of.length ∧ i = .int .i64 j ∧ Hid ((of.take j).all (allX z02 n) = true) ∧ Below w.heap.size w wr ∧ w.heap.size < wr.heap.size ∧ wr.cell? ⟨w.heap.size,2,none⟩ = some (.slice a of.length c)) (fun i _ => of.length - (intOf i).toNat)
    case atStart => exact ⟨0,Nat.zero_le _,rfl,by simp [Hid],HB0.out,by simp,by simp [World.cell?_alloc_at]⟩
    case round =>
     obtain ⟨j,hj,rfl,HT,hbw,hsz,hbox2⟩:=hrel
     have HBW:=Jh hbw
     by_cases hlt : j < of.length
     ·have hltI : ((j : Nat) : Int) < ((of.length : Nat) : Int):=by omega
      obtain ⟨b,off,k',a1',l1',c1',a2',l2',c2',lo',ls',hi',hs',op',rfl,hbl,c0,d1,c2,c3,c4,c5,c6,c7,hr⟩:=(XRow.up HR.out hbw (Nat.le_refl _)).at j hlt
      have hz:=hbw.size
      have hbl' : b < wr.heap.size:=by omega
      have HC:=Jh (HIH.out of[j] _ wr (hr.up (Below.refl _ _) hz))
      have HTK:=Jh (z06 (allX z02 n) of j hlt)
      have HF : Hid ((allX z02 n) of[j] = false → of.all (allX z02 n) = false):=fun h => List.all_eq_false.2 ⟨_,List.getElem_mem hlt,by simp [h]⟩
      clear hr hbw
      cases qq : (allX z02 n) of[j] with
      | true =>
       have HT' : Hid ((of.take (j + 1)).all (allX z02 n) = true):=by rw [Hid,HTK.out,HT.out]; simp [qq]
       rw [qq] at HC
       clear qq
       go_wp2_with fail
       refine HC.out.mono ?_
       rintro e w3 ⟨rfl,hb3⟩
       have HB3:=Jh (HBW.out.trans (hb3.mono hz))
       have hsz3 : w.heap.size < w3.heap.size:=by have:=hb3.size; omega
       have gbox2:=(hb3.cell (p:=⟨w.heap.size,2,none⟩) hsz).trans hbox2
       clear hb3
       go_wp2_with fail
       go_roundw
       case rel => exact ⟨j + 1,by omega,by go_num,HT',HB3.out,hsz3,gbox2⟩
       case measure => simp [intOf]; omega
      | false =>
       have HNO:=Jh (HF.out qq)
       rw [qq] at HC
       clear qq
       go_wp2_with fail
       refine HC.out.mono ?_
       rintro e w3 ⟨rfl,hb3⟩
       have HB3:=Jh (HBW.out.trans (hb3.mono hz))
       clear hb3
       go_wp2_with fail
       all_goals go_ret
       all_goals exact ⟨z01 (by rw [HA.out,HNO.out,Bool.and_false]),HB3.out⟩
     ·have hje : j = of.length:=by omega
      subst hje
      have hltI : ¬ ((of.length : Nat) : Int) < ((of.length : Nat) : Int):=by omega
      have HALL : Hid (of.all (allX z02 n) = true):=by have h:=HT.out; rw [List.take_length] at h; exact h
      clear HT
      go_wp2_with fail
      all_goals go_ret
      all_goals exact ⟨z01 (by rw [HA.out,HQ.out,HALL.out]; rfl),HBW.out⟩
   ·have HQ : Hid (z02 5 is of.length ⟨lo,ls,hi,hs,op⟩ = false):=by
     have : decide ((⟨lo,ls,hi,hs,op⟩ : Spn) = noSpan) = false:=by simpa [noSpan] using hsp
     rw [Hid,H1.out,this]; simp
    clear hl hl2 H1
    have hc : lo ≠ 0 ∨ (lo = 0 ∧ ls = true) ∨ (lo = 0 ∧ ls = false ∧ hi ≠ 0) ∨ (lo = 0 ∧ ls = false ∧ hi = 0 ∧ hs = true) ∨ (lo = 0 ∧ ls = false ∧ hi = 0 ∧ hs = false ∧ op = true):=by
     simp only [Spn.mk.injEq,not_and] at hsp
     by_cases h1 : lo = 0 <;> cases ls <;> by_cases h3 : hi = 0 <;> cases hs <;> cases op <;> simp_all
    clear hsp
    rcases hc with hq | ⟨rfl,rfl⟩ | ⟨rfl,rfl,hq⟩ | ⟨rfl,rfl,rfl,rfl⟩ | ⟨rfl,rfl,rfl,rfl,rfl⟩
    all_goals
     go_enter Tryz.func104,Tryz.ntmps104
     go_wp2_with fail
     go_ret
     exact ⟨z01 (by rw [HA.out,HQ.out,Bool.false_and]),HB0.out⟩
  ·have g2 : (((of.length : Nat) : Int) != 1) = true:=by rw [bne_iff_ne]; omega
   have HQ : Hid (z02 5 is of.length ⟨lo,ls,hi,hs,op⟩ = false):=by
    have : (of.length == 1) = false:=by simpa using hl2
    rw [Hid,H1.out,this]; simp
   clear hl hl2 H1
   go_enter Tryz.func104,Tryz.ntmps104
   go_wp2_with fail
   all_goals go_ret
   all_goals exact ⟨z01 (by rw [HA.out,HQ.out,Bool.false_and]),HB0.out⟩
 ·have g1 : (((is.length : Nat) : Int) != 0) = true:=by rw [bne_iff_ne]; omega
  have HQ : Hid (z02 5 is of.length ⟨lo,ls,hi,hs,op⟩ = false):=by
   have : (is.length == 0) = false:=by simpa using hl
   rw [Hid,H1.out,this]; rfl
  clear hl H1
  go_enter Tryz.func104,Tryz.ntmps104
  go_wp2_with fail
  all_goals go_ret
  all_goals exact ⟨z01 (by rw [HA.out,HQ.out,Bool.false_and]),HB0.out⟩
theorem right81_6 (m n : Nat) (ih : z5u m n) (is : List (FT m)) (of : List (XT m n)) (a1 a : Option Addr) (c1 c : Nat) (lo hi : Int) (ls hs op : Bool) (w : World) (hR1 : FRow w w.heap.size m a1 is) (hR : XRow w w.heap.size m n a of) :
 Calls Tryz.prog 104 #[.agg #[.int .u8 6,.slice a1 is.length c1,.slice a of.length c,.int .i64 lo,.bool ls,.int .i64 hi,.bool hs,.bool op]] w fun e w' => e = .returned (.bool (allX z02 (n + 1) ((6,is,of,⟨lo,ls,hi,hs,op⟩) : XT m (n + 1)))) ∧ Below w.heap.size w w':=by
 have hm:=hR.1
 have hm1:=hR1.1
 have HR:=Jh hR
 have HR1:=Jh hR1
 have HIH:=Jh ih
 have hb0 : Below w.heap.size w (w.alloc (.cells #[.int .u8 6,.slice a1 is.length c1,.slice a of.length c,.int .i64 lo,.bool ls,.int .i64 hi,.bool hs,.bool op] 47)):=(Below.refl _ w).alloc (Nat.le_refl _) _
 have HB0:=Jh hb0
 have HA : Hid (allX z02 (n + 1) ((6,is,of,⟨lo,ls,hi,hs,op⟩) : XT m (n + 1)) = (z02 6 is of.length ⟨lo,ls,hi,hs,op⟩ && of.all (allX z02 n))):=rfl
 clear hR hR1 ih hb0
 have H1 : Hid (z02 6 is of.length ⟨lo,ls,hi,hs,op⟩ = (is.length == 0 && (of.length == 1) && mayI ⟨lo,ls,hi,hs,op⟩)):=rightX_six is of.length ⟨lo,ls,hi,hs,op⟩
 by_cases hl : is.length = 0
 ·have g1 : (((is.length : Nat) : Int) != 0) = false:=by simp [hl]
  by_cases hl2 : of.length = 1
  ·have g2 : (((of.length : Nat) : Int) != 1) = false:=by rw [bne_eq_false_iff_eq]; omega
   have HI:=Jh (z4h ⟨lo,ls,hi,hs,op⟩ (w.alloc (.cells #[.int .u8 6,.slice a1 is.length c1,.slice a of.length c,.int .i64 lo,.bool ls,.int .i64 hi,.bool hs,.bool op] 47)))
   have HBX : Hid ((w.alloc (.cells #[.int .u8 6,.slice a1 is.length c1,.slice a of.length c,.int .i64 lo,.bool ls,.int .i64 hi,.bool hs,.bool op] 47)).cell? ⟨w.heap.size,2,none⟩ = some (.slice a of.length c)):=by simp [World.cell?_alloc_at,Hid]
   have HBX0 : Hid ((w.alloc (.cells #[.int .u8 6,.slice a1 is.length c1,.slice a of.length c,.int .i64 lo,.bool ls,.int .i64 hi,.bool hs,.bool op] 47)).cell? ⟨w.heap.size,0,none⟩ = some (.int .u8 6)):=by simp [World.cell?_alloc_at,Hid]
   have HSZ : Hid (w.heap.size < (w.alloc (.cells #[.int .u8 6,.slice a1 is.length c1,.slice a of.length c,.int .i64 lo,.bool ls,.int .i64 hi,.bool hs,.bool op] 47)).heap.size):=by simp [Hid]
   cases qm : mayI ⟨lo,ls,hi,hs,op⟩ with
   | true =>
    have HQ : Hid (z02 6 is of.length ⟨lo,ls,hi,hs,op⟩ = true):=by rw [Hid,H1.out,hl,hl2,qm]; rfl
    have HI':=HI
    rw [qm] at HI'
    clear qm hl hl2 H1 HI
    go_enter Tryz.func104,Tryz.ntmps104
    go_wp2_with fail
    refine HI'.out.mono ?_
    rintro e w1 ⟨rfl,hb1⟩
    have HBW0:=Jh (HB0.out.trans (hb1.mono HB0.out.size))
    have hsz0 : w.heap.size < w1.heap.size:=by have:=hb1.size; have:=HSZ.out; omega
    have hbx0:=(hb1.cell (p:=⟨w.heap.size,2,none⟩) HSZ.out).trans HBX.out
    have hbx:=(hb1.cell (p:=⟨w.heap.size,0,none⟩) HSZ.out).trans HBX0.out
    clear hb1
    go_wp2_with fail
    go_loopw [4] (fun i wr => ∃ j : Nat,j ≤ of.length ∧ i = .int .i64 j ∧ Hid ((of.take j).all (allX z02 n) = true) ∧ Below w.heap.size w wr ∧ w.heap.size < wr.heap.size ∧ wr.cell? ⟨w.heap.size,2,none⟩ = some (.slice a of.length c)) (fun i _ => of.length - (intOf i).toNat)
    case atStart => exact ⟨0,Nat.zero_le _,rfl,by simp [Hid],HBW0.out,hsz0,hbx0⟩
    case round =>
     obtain ⟨j,hj,rfl,HT,hbw,hsz,hbox2⟩:=hrel
     have HBW:=Jh hbw
     by_cases hlt : j < of.length
     ·have hltI : ((j : Nat) : Int) < ((of.length : Nat) : Int):=by omega
      obtain ⟨b,off,k',a1',l1',c1',a2',l2',c2',lo',ls',hi',hs',op',rfl,hbl,c0,d1,c2,c3,c4,c5,c6,c7,hr⟩:=(XRow.up HR.out hbw (Nat.le_refl _)).at j hlt
      have hz:=hbw.size
      have hbl' : b < wr.heap.size:=by omega
      have HC:=Jh (HIH.out of[j] _ wr (hr.up (Below.refl _ _) hz))
      have HTK:=Jh (z06 (allX z02 n) of j hlt)
      have HF : Hid ((allX z02 n) of[j] = false → of.all (allX z02 n) = false):=fun h => List.all_eq_false.2 ⟨_,List.getElem_mem hlt,by simp [h]⟩
      clear hr hbw
      cases qq : (allX z02 n) of[j] with
      | true =>
       have HT' : Hid ((of.take (j + 1)).all (allX z02 n) = true):=by rw [Hid,HTK.out,HT.out]; simp [qq]
       rw [qq] at HC
       clear qq
       go_wp2_with fail
       refine HC.out.mono ?_
       rintro e w3 ⟨rfl,hb3⟩
       have HB3:=Jh (HBW.out.trans (hb3.mono hz))
       have hsz3 : w.heap.size < w3.heap.size:=by have:=hb3.size; omega
       have gbox2:=(hb3.cell (p:=⟨w.heap.size,2,none⟩) hsz).trans hbox2
       clear hb3
       go_wp2_with fail
       go_roundw
       case rel => exact ⟨j + 1,by omega,by go_num,HT',HB3.out,hsz3,gbox2⟩
       case measure => simp [intOf]; omega
      | false =>
       have HNO:=Jh (HF.out qq)
       rw [qq] at HC
       clear qq
       go_wp2_with fail
       refine HC.out.mono ?_
       rintro e w3 ⟨rfl,hb3⟩
       have HB3:=Jh (HBW.out.trans (hb3.mono hz))
       clear hb3
       go_wp2_with fail
       all_goals go_ret
       all_goals exact ⟨z01 (by rw [HA.out,HNO.out,Bool.and_false]),HB3.out⟩
     ·have hje : j = of.length:=by omega
      subst hje
      have hltI : ¬ ((of.length : Nat) : Int) < ((of.length : Nat) : Int):=by omega
      have HALL : Hid (of.all (allX z02 n) = true):=by have h:=HT.out; rw [List.take_length] at h; exact h
      clear HT
      go_wp2_with fail
      all_goals go_ret
      all_goals exact ⟨z01 (by rw [HA.out,HQ.out,HALL.out]; rfl),HBW.out⟩
   | false =>
    have HQ : Hid (z02 6 is of.length ⟨lo,ls,hi,hs,op⟩ = false):=by rw [Hid,H1.out,qm]; simp
    have HI':=HI
    rw [qm] at HI'
    clear qm hl hl2 H1 HI
    go_enter Tryz.func104,Tryz.ntmps104
    go_wp2_with fail
    refine HI'.out.mono ?_
    rintro e w1 ⟨rfl,hb1⟩
    have HB1:=Jh (HB0.out.trans (hb1.mono HB0.out.size))
    clear hb1
    go_wp2_with fail
    all_goals go_ret
    all_goals exact ⟨z01 (by rw [HA.out,HQ.out,Bool.false_and]),HB1.out⟩
  ·have g2 : (((of.length : Nat) : Int) != 1) = true:=by rw [bne_iff_ne]; omega
   have HQ : Hid (z02 6 is of.length ⟨lo,ls,hi,hs,op⟩ = false):=by
    have : (of.length == 1) = false:=by simpa using hl2
    rw [Hid,H1.out,this]; simp
   clear hl hl2 H1
   go_enter Tryz.func104,Tryz.ntmps104
   go_wp2_with fail
   all_goals go_ret
   all_goals exact ⟨z01 (by rw [HA.out,HQ.out,Bool.false_and]),HB0.out⟩
 ·have g1 : (((is.length : Nat) : Int) != 0) = true:=by rw [bne_iff_ne]; omega
  have HQ : Hid (z02 6 is of.length ⟨lo,ls,hi,hs,op⟩ = false):=by
   have : (is.length == 0) = false:=by simpa using hl
   rw [Hid,H1.out,this]; rfl
  clear hl H1
  go_enter Tryz.func104,Tryz.ntmps104
  go_wp2_with fail
  all_goals go_ret
  all_goals exact ⟨z01 (by rw [HA.out,HQ.out,Bool.false_and]),HB0.out⟩
theorem right81_any (m n : Nat) : z5u m n:=by
 induction n with
 | zero => intro t v w h; exact h.elim
 | succ n ih =>
  intro t v w h
  obtain ⟨k,is,of,lo,ls,hi,hs,op⟩:=t
  obtain ⟨a1,c1,a,c,rfl,hR1,hR⟩:=h
  dsimp only at hR hR1 ⊢
  have hk : (k < 1 ∨ 6 < k) ∨ k = 1 ∨ k = 2 ∨ k = 3 ∨ k = 4 ∨ k = 5 ∨ k = 6:=by omega
  rcases hk with h | rfl | rfl | rfl | rfl | rfl | rfl
  ·exact right81_out m n ih k h is of a1 a c1 c lo hi ls hs op w hR1 hR
  ·exact right81_one m n ih is of a1 a c1 c lo hi ls hs op w hR1 hR
  ·exact right81_2 m n ih is of a1 a c1 c lo hi ls hs op w hR1 hR
  ·exact right81_3 m n ih is of a1 a c1 c lo hi ls hs op w hR1 hR
  ·exact right81_4 m n ih is of a1 a c1 c lo hi ls hs op w hR1 hR
  ·exact right81_5 m n ih is of a1 a c1 c lo hi ls hs op w hR1 hR
  ·exact right81_6 m n ih is of a1 a c1 c lo hi ls hs op w hR1 hR
end Go.Proofs.YtockinpjfhhkoaaGreatDoor
