/- The book of layer 16: formulas and expressions compared. (Printed by gen_bkj.py.) -/
import Derived.StillTailTactics
import Derived.Deep.QuietTactic
import Derived.Deep.Cut
import Derived.Test.YtpgdplmndnopbaaGreatDoorZ16
set_option maxRecDepth 100000
set_option maxHeartbeats 16000000
namespace Go.Proofs.YtpgdplmndnopbaaGreatDoor
open Go.RowKit
def EqF41 (n n' : Nat) : Prop:=∀ (t : FT n) (u : FT n') (v v' : Value) (w : World),FRep w w.heap.size n t v → FRep w w.heap.size n' u v' →
 Calls Tryz.prog 41 #[v,v'] w fun e w' => SaysP (toF n t = toF n' u) e ∧ Below w.heap.size w w'
theorem same41_any : ∀ n n' : Nat,EqF41 n n':=by
 intro n
 induction n with
 | zero => intro n' t u v v' w h; exact h.elim
 | succ n ih =>
  intro n' t u v v' w h h'
  cases n' with
  | zero => exact h'.elim
  | succ n' =>
   obtain ⟨k1,s1,of1⟩:=t
   obtain ⟨k2,s2,of2⟩:=u
   obtain ⟨a1,c1,rfl,hR1⟩:=h
   obtain ⟨a2,c2,rfl,hR2⟩:=h'
   have hR1 : FRow w w.heap.size n a1 of1:=hR1
   have hR2 : FRow w w.heap.size n' a2 of2:=hR2
   have HF : Hid (∀ b : Bool,(b = true ↔ (k1 = k2 ∧ s1.toList = s2.toList ∧ of1.map (toF n) = of2.map (toF n'))) → (b = true ↔ toF (n + 1) (k1,s1,of1) = toF (n' + 1) (k2,s2,of2))):=by
    intro b hb
    show b = true ↔ F.mk k1 s1 (of1.map (toF n)) = F.mk k2 s2 (of2.map (toF n'))
    rw [hb,F.mk.injEq]
    constructor
    ·rintro ⟨h1,h2,h3⟩
     refine ⟨h1,?_,h3⟩
     rw [ByteArray.toList_eq,ByteArray.toList_eq] at h2
     have e : s1.data = s2.data:=Array.toList_inj.1 h2
     cases s1; cases s2; exact congrArg _ e
    ·rintro ⟨h1,h2,h3⟩
     exact ⟨h1,by rw [h2],h3⟩
   have hm1:=hR1.1
   have hm2:=hR2.1
   have HB : Hid (Below w.heap.size w ((w.alloc (.cells #[.int .u8 k1,.string s1,.slice a1 of1.length c1] 61)).alloc (.cells #[.int .u8 k2,.string s2,.slice a2 of2.length c2] 61))):=((Below.refl _ _).alloc (Nat.le_refl _) _).alloc (by simp) _
   have HX1 : Hid (((w.alloc (.cells #[.int .u8 k1,.string s1,.slice a1 of1.length c1] 61)).alloc (.cells #[.int .u8 k2,.string s2,.slice a2 of2.length c2] 61)).cell? ⟨w.heap.size,2,none⟩ = some (.slice a1 of1.length c1)):=Lib.cell_of_heap (sm_in (z2w rfl)) 2
   have HX2 : Hid (((w.alloc (.cells #[.int .u8 k1,.string s1,.slice a1 of1.length c1] 61)).alloc (.cells #[.int .u8 k2,.string s2,.slice a2 of2.length c2] 61)).cell? ⟨w.heap.size + 1,2,none⟩ = some (.slice a2 of2.length c2)):=Lib.cell_of_heap (z2w (by simp)) 2
   have HR1:=Lib.hid hR1
   have HR2:=Lib.hid hR2
   have HIH:=Lib.hid ih
   clear hR1 hR2 ih
   cases q1 : k1 == k2 with
   | false =>
    have HK : Hid (¬ k1 = k2):=by simpa [Hid] using q1
    have q1' : (k1 != k2) = true:=by simp [bne,q1]
    go_enter Tryz.func41,Tryz.ntmps41
    go_wp2_with fail
    all_goals go_ret
    all_goals exact ⟨SaysP.mk rfl (HF.out false ⟨fun h => (by cases h),fun h => absurd h.1 HK.out⟩),HB.out⟩
   | true =>
    have HK : Hid (k1 = k2):=by simpa [Hid] using q1
    have q1' : (k1 != k2) = false:=by simp [bne,q1]
    cases q2 : s1.toList == s2.toList with
    | false =>
     have HK2 : Hid (¬ s1.toList = s2.toList):=by rw [Hid]; exact fun h => by rw [h] at q2; simp at q2
     have q2' : (s1.toList != s2.toList) = true:=by simp [bne,q2]
     go_enter Tryz.func41,Tryz.ntmps41
     go_wp2_with fail
     all_goals go_ret
     all_goals exact ⟨SaysP.mk rfl (HF.out false ⟨fun h => (by cases h),fun h => absurd h.2.1 HK2.out⟩),HB.out⟩
    | true =>
     have HK2 : Hid (s1.toList = s2.toList):=by rw [Hid]; exact eq_of_beq q2
     have q2' : (s1.toList != s2.toList) = false:=by simp [bne,q2]
     by_cases hl : of1.length = of2.length
     ·have HLEN:=Lib.hid hl
      have q3 : (((of1.length : Nat) : Int) != ((of2.length : Nat) : Int)) = false:=by rw [bne_eq_false_iff_eq]; omega
      clear hl
      go_enter Tryz.func41,Tryz.ntmps41
      go_wp2_with fail
      clear q1 q1' q2 q2' q3
      go_loopw [5] (fun i wr => ∃ j : Nat,j ≤ of1.length ∧ i = .int .i64 j ∧ Hid ((of1.take j).map (toF n) = (of2.take j).map (toF n')) ∧ Below w.heap.size w wr ∧ w.heap.size + 1 < wr.heap.size ∧ wr.cell? ⟨w.heap.size,2,none⟩ = some (.slice a1 of1.length c1) ∧ wr.cell? ⟨w.heap.size + 1,2,none⟩ = some (.slice a2 of2.length c2)) (fun i _ => of1.length - (intOf i).toNat)
      case atStart => exact ⟨0,Nat.zero_le _,rfl,rfl,HB.out,by simp,HX1.out,HX2.out⟩
      case round =>
       obtain ⟨j,hj,rfl,HT,hbw,hsz,hb02,hb12⟩:=hrel
       have HBW:=Lib.hid hbw
       by_cases hlt : j < of1.length
       ·have hlt' : j < of2.length:=HLEN.out ▸ hlt
        have hltI : ((j : Nat) : Int) < ((of1.length : Nat) : Int):=by omega
        have hltJ : ((j : Nat) : Int) < ((of2.length : Nat) : Int):=by omega
        obtain ⟨q1,off1,x1,y1,z1a,z1b,z1c,rfl,hq1,u0,u1,u2,hr1⟩:=(FRow.up HR1.out hbw (Nat.le_refl _)).at j hlt
        obtain ⟨q2,off2,x2,y2,z2a,z2b,z2c,rfl,hq2,v0,v1,v2,hr2⟩:=(FRow.up HR2.out hbw (Nat.le_refl _)).at j hlt'
        have hz:=hbw.size
        have hq1' : q1 < wr.heap.size:=by omega
        have hq2' : q2 < wr.heap.size:=by omega
        have HC:=Lib.hid (HIH.out n' of1[j] of2[j] _ _ wr.drew (hr1.up (Below.drew (Below.refl _ _)) (by simp; omega)) (hr2.up (Below.drew (Below.refl _ _)) (by simp; omega)))
        have HS : Hid (∀ b : Bool,(b = true ↔ (toF n) of1[j] = (toF n') of2[j]) → (b = true ↔ (of1.take (j + 1)).map (toF n) = (of2.take (j + 1)).map (toF n'))):=by
         intro b hb
         rw [List.take_succ_eq_append_getElem hlt,List.take_succ_eq_append_getElem hlt',List.map_append,List.map_append,HT.out,hb]
         constructor
         ·intro h; simp [h]
         ·intro h; simpa using List.append_cancel_left h
        have HNE : Hid (¬ ((of1.take (j + 1)).map (toF n) = (of2.take (j + 1)).map (toF n')) → ¬ (of1.map (toF n) = of2.map (toF n'))):=by
         intro h h2
         refine h ?_
         rw [List.map_take,List.map_take,h2]
        clear hr1 hr2 hbw
        go_upto_region 6 with fail
        go_still_tail 10,(by kernel_rfl)
        change wpList _ _ _ _ _ wr.drew
        go_wp2_with fail
        refine HC.out.mono ?_
        rintro e w3 ⟨⟨b,rfl,hb0⟩,hb3⟩
        have hb:=Lib.hid hb0
        clear hb0
        have HB3:=Lib.hid (HBW.out.trans ((Below.refl w.heap.size wr).drew.trans (hb3.mono hz)))
        have hsz3 : w.heap.size + 1 < w3.heap.size:=by have:=hb3.size; simp at this; omega
        have g02:=(hb3.cell (p:=⟨w.heap.size,2,none⟩) (by simp; omega)).trans hb02
        have g12:=(hb3.cell (p:=⟨w.heap.size + 1,2,none⟩) (by simp; omega)).trans hb12
        have HSB:=Lib.hid (HS.out b hb.out)
        clear hb hb3 u0 u1 u2 v0 v1 v2
        cases b with
        | true =>
         go_wp2_with fail
         go_roundw
         case rel => exact ⟨j + 1,by omega,by go_num,HSB.out.1 (by first | trivial | rfl),HB3.out,hsz3,g02,g12⟩
         case measure => simp [intOf]; omega
        | false =>
         have HNO:=Lib.hid (HNE.out (fun h => by cases HSB.out.2 h))
         clear HS HSB HNE
         go_wp2_with fail
         all_goals go_ret
         all_goals exact ⟨SaysP.mk rfl (HF.out false ⟨fun h => (by cases h),fun h => absurd h.2.2 HNO.out⟩),HB3.out⟩
       ·have hje : j = of1.length:=by omega
        have HE : Hid (of1.map (toF n) = of2.map (toF n')):=by
         rw [Hid]; have:=HT.out; rw [hje,List.take_length,HLEN.out,List.take_length] at this; exact this
        have hltI : ¬ ((j : Nat) : Int) < ((of1.length : Nat) : Int):=by omega
        clear HT hje
        go_wp2_with fail
        all_goals go_ret
        all_goals exact ⟨SaysP.mk rfl (HF.out true ⟨fun _ => ⟨HK.out,HK2.out,HE.out⟩,fun _ => rfl⟩),HBW.out⟩
     ·have q3 : (((of1.length : Nat) : Int) != ((of2.length : Nat) : Int)) = true:=by rw [bne_iff_ne]; omega
      have HNE : Hid (¬ of1.map (toF n) = of2.map (toF n')):=fun h => hl (by have:=congrArg List.length h; simpa using this)
      clear hl
      go_enter Tryz.func41,Tryz.ntmps41
      go_wp2_with fail
      all_goals go_ret
      all_goals exact ⟨SaysP.mk rfl (HF.out false ⟨fun h => (by cases h),fun h => absurd h.2.2 HNE.out⟩),HB.out⟩
def EqX20 (m m' n n' : Nat) : Prop:=∀ (t : XT m n) (u : XT m' n') (v v' : Value) (w : World),XRep w w.heap.size m n t v → XRep w w.heap.size m' n' u v' →
 Calls Tryz.prog 20 #[v,v'] w fun e w' => SaysP (toX n t = toX n' u) e ∧ Below w.heap.size w w'
theorem spn_split (lo1 hi1 lo2 hi2 : Int) (ls1 hs1 op1 ls2 hs2 op2 : Bool) (h : ¬ (⟨lo1,ls1,hi1,hs1,op1⟩ : Spn) = ⟨lo2,ls2,hi2,hs2,op2⟩) :
 ¬ lo1 = lo2 ∨ (lo1 = lo2 ∧ ¬ ls1 = ls2) ∨ (lo1 = lo2 ∧ ls1 = ls2 ∧ ¬ hi1 = hi2) ∨ (lo1 = lo2 ∧ ls1 = ls2 ∧ hi1 = hi2 ∧ ¬ hs1 = hs2) ∨ (lo1 = lo2 ∧ ls1 = ls2 ∧ hi1 = hi2 ∧ hs1 = hs2 ∧ ¬ op1 = op2):=by
 simp only [Spn.mk.injEq,not_and] at h
 by_cases h1 : lo1 = lo2 <;> by_cases h2 : ls1 = ls2 <;> by_cases h3 : hi1 = hi2 <;> by_cases h4 : hs1 = hs2 <;> by_cases h5 : op1 = op2 <;> simp_all
theorem same20_kind (m m' n n' : Nat) (ih : ∀ n',EqX20 m m' n n') (k1 k2 : Int) (is1 : List (FT m)) (is2 : List (FT m')) (of1 : List (XT m n)) (of2 : List (XT m' n')) (lo1 hi1 lo2 hi2 : Int) (ls1 hs1 op1 ls2 hs2 op2 : Bool) (p1 p2 a1 a2 : Option Addr) (d1 d2 c1 c2 : Nat) (w : World)
 (hF1 : FRow w w.heap.size m p1 is1) (hF2 : FRow w w.heap.size m' p2 is2) (hR1 : XRow w w.heap.size m n a1 of1) (hR2 : XRow w w.heap.size m' n' a2 of2) (hk : ¬ k1 = k2) :
 Calls Tryz.prog 20 #[.agg #[.int .u8 k1,.slice p1 is1.length d1,.slice a1 of1.length c1,.int .i64 lo1,.bool ls1,.int .i64 hi1,.bool hs1,.bool op1],.agg #[.int .u8 k2,.slice p2 is2.length d2,.slice a2 of2.length c2,.int .i64 lo2,.bool ls2,.int .i64 hi2,.bool hs2,.bool op2]] w fun e w' => SaysP (toX (n + 1) ((k1,is1,of1,⟨lo1,ls1,hi1,hs1,op1⟩) : XT m (n + 1)) = toX (n' + 1) ((k2,is2,of2,⟨lo2,ls2,hi2,hs2,op2⟩) : XT m' (n' + 1))) e ∧ Below w.heap.size w w':=by
 have HF : Hid (∀ b : Bool,(b = true ↔ (k1 = k2 ∧ (⟨lo1,ls1,hi1,hs1,op1⟩ : Spn) = ⟨lo2,ls2,hi2,hs2,op2⟩ ∧ is1.map (toF m) = is2.map (toF m') ∧ of1.map (toX n) = of2.map (toX n'))) → (b = true ↔ toX (n + 1) ((k1,is1,of1,⟨lo1,ls1,hi1,hs1,op1⟩) : XT m (n + 1)) = toX (n' + 1) ((k2,is2,of2,⟨lo2,ls2,hi2,hs2,op2⟩) : XT m' (n' + 1)))):=by
  intro b hb
  show b = true ↔ X.mk k1 (is1.map (toF m)) (of1.map (toX n)) ⟨lo1,ls1,hi1,hs1,op1⟩ = X.mk k2 (is2.map (toF m')) (of2.map (toX n')) ⟨lo2,ls2,hi2,hs2,op2⟩
  rw [hb,X.mk.injEq]
  exact ⟨fun ⟨h1,h2,h3,h4⟩ => ⟨h1,h3,h4,h2⟩,fun ⟨h1,h3,h4,h2⟩ => ⟨h1,h2,h3,h4⟩⟩
 have hm1:=hR1.1
 have hm2:=hR2.1
 have hm3:=hF1.1
 have hm4:=hF2.1
 have HB : Hid (Below w.heap.size w ((w.alloc (.cells #[.int .u8 k1,.slice p1 is1.length d1,.slice a1 of1.length c1,.int .i64 lo1,.bool ls1,.int .i64 hi1,.bool hs1,.bool op1] 28)).alloc (.cells #[.int .u8 k2,.slice p2 is2.length d2,.slice a2 of2.length c2,.int .i64 lo2,.bool ls2,.int .i64 hi2,.bool hs2,.bool op2] 28))):=((Below.refl _ _).alloc (Nat.le_refl _) _).alloc (by simp) _
 have HX01 : Hid (((w.alloc (.cells #[.int .u8 k1,.slice p1 is1.length d1,.slice a1 of1.length c1,.int .i64 lo1,.bool ls1,.int .i64 hi1,.bool hs1,.bool op1] 28)).alloc (.cells #[.int .u8 k2,.slice p2 is2.length d2,.slice a2 of2.length c2,.int .i64 lo2,.bool ls2,.int .i64 hi2,.bool hs2,.bool op2] 28)).cell? ⟨w.heap.size,1,none⟩ = some (.slice p1 is1.length d1)):=Lib.cell_of_heap (sm_in (z2w rfl)) 1
 have HX02 : Hid (((w.alloc (.cells #[.int .u8 k1,.slice p1 is1.length d1,.slice a1 of1.length c1,.int .i64 lo1,.bool ls1,.int .i64 hi1,.bool hs1,.bool op1] 28)).alloc (.cells #[.int .u8 k2,.slice p2 is2.length d2,.slice a2 of2.length c2,.int .i64 lo2,.bool ls2,.int .i64 hi2,.bool hs2,.bool op2] 28)).cell? ⟨w.heap.size,2,none⟩ = some (.slice a1 of1.length c1)):=Lib.cell_of_heap (sm_in (z2w rfl)) 2
 have HX11 : Hid (((w.alloc (.cells #[.int .u8 k1,.slice p1 is1.length d1,.slice a1 of1.length c1,.int .i64 lo1,.bool ls1,.int .i64 hi1,.bool hs1,.bool op1] 28)).alloc (.cells #[.int .u8 k2,.slice p2 is2.length d2,.slice a2 of2.length c2,.int .i64 lo2,.bool ls2,.int .i64 hi2,.bool hs2,.bool op2] 28)).cell? ⟨w.heap.size + 1,1,none⟩ = some (.slice p2 is2.length d2)):=Lib.cell_of_heap (z2w (by simp)) 1
 have HX12 : Hid (((w.alloc (.cells #[.int .u8 k1,.slice p1 is1.length d1,.slice a1 of1.length c1,.int .i64 lo1,.bool ls1,.int .i64 hi1,.bool hs1,.bool op1] 28)).alloc (.cells #[.int .u8 k2,.slice p2 is2.length d2,.slice a2 of2.length c2,.int .i64 lo2,.bool ls2,.int .i64 hi2,.bool hs2,.bool op2] 28)).cell? ⟨w.heap.size + 1,2,none⟩ = some (.slice a2 of2.length c2)):=Lib.cell_of_heap (z2w (by simp)) 2
 have HR1:=Lib.hid hR1
 have HR2:=Lib.hid hR2
 have HF1:=Lib.hid hF1
 have HF2:=Lib.hid hF2
 have HIH:=Lib.hid ih
 clear hR1 hR2 hF1 hF2 ih
 have HK:=Lib.hid hk
 have q1 : (k1 == k2) = false:=by simpa using hk
 have q1' : (k1 != k2) = true:=by simp [bne,q1]
 clear hk
 go_enter Tryz.func20,Tryz.ntmps20
 go_wp2_with fail
 all_goals go_ret
 all_goals exact ⟨SaysP.mk rfl (HF.out false ⟨fun h => (by cases h),fun h => absurd h.1 HK.out⟩),HB.out⟩
theorem same20_in (m m' n n' : Nat) (ih : ∀ n',EqX20 m m' n n') (k1 k2 : Int) (is1 : List (FT m)) (is2 : List (FT m')) (of1 : List (XT m n)) (of2 : List (XT m' n')) (lo1 hi1 lo2 hi2 : Int) (ls1 hs1 op1 ls2 hs2 op2 : Bool) (p1 p2 a1 a2 : Option Addr) (d1 d2 c1 c2 : Nat) (w : World)
 (hF1 : FRow w w.heap.size m p1 is1) (hF2 : FRow w w.heap.size m' p2 is2) (hR1 : XRow w w.heap.size m n a1 of1) (hR2 : XRow w w.heap.size m' n' a2 of2) (hk : k1 = k2) (hi : ¬ (⟨lo1,ls1,hi1,hs1,op1⟩ : Spn) = ⟨lo2,ls2,hi2,hs2,op2⟩) :
 Calls Tryz.prog 20 #[.agg #[.int .u8 k1,.slice p1 is1.length d1,.slice a1 of1.length c1,.int .i64 lo1,.bool ls1,.int .i64 hi1,.bool hs1,.bool op1],.agg #[.int .u8 k2,.slice p2 is2.length d2,.slice a2 of2.length c2,.int .i64 lo2,.bool ls2,.int .i64 hi2,.bool hs2,.bool op2]] w fun e w' => SaysP (toX (n + 1) ((k1,is1,of1,⟨lo1,ls1,hi1,hs1,op1⟩) : XT m (n + 1)) = toX (n' + 1) ((k2,is2,of2,⟨lo2,ls2,hi2,hs2,op2⟩) : XT m' (n' + 1))) e ∧ Below w.heap.size w w':=by
 have HF : Hid (∀ b : Bool,(b = true ↔ (k1 = k2 ∧ (⟨lo1,ls1,hi1,hs1,op1⟩ : Spn) = ⟨lo2,ls2,hi2,hs2,op2⟩ ∧ is1.map (toF m) = is2.map (toF m') ∧ of1.map (toX n) = of2.map (toX n'))) → (b = true ↔ toX (n + 1) ((k1,is1,of1,⟨lo1,ls1,hi1,hs1,op1⟩) : XT m (n + 1)) = toX (n' + 1) ((k2,is2,of2,⟨lo2,ls2,hi2,hs2,op2⟩) : XT m' (n' + 1)))):=by
  intro b hb
  show b = true ↔ X.mk k1 (is1.map (toF m)) (of1.map (toX n)) ⟨lo1,ls1,hi1,hs1,op1⟩ = X.mk k2 (is2.map (toF m')) (of2.map (toX n')) ⟨lo2,ls2,hi2,hs2,op2⟩
  rw [hb,X.mk.injEq]
  exact ⟨fun ⟨h1,h2,h3,h4⟩ => ⟨h1,h3,h4,h2⟩,fun ⟨h1,h3,h4,h2⟩ => ⟨h1,h2,h3,h4⟩⟩
 have hm1:=hR1.1
 have hm2:=hR2.1
 have hm3:=hF1.1
 have hm4:=hF2.1
 have HB : Hid (Below w.heap.size w ((w.alloc (.cells #[.int .u8 k1,.slice p1 is1.length d1,.slice a1 of1.length c1,.int .i64 lo1,.bool ls1,.int .i64 hi1,.bool hs1,.bool op1] 28)).alloc (.cells #[.int .u8 k2,.slice p2 is2.length d2,.slice a2 of2.length c2,.int .i64 lo2,.bool ls2,.int .i64 hi2,.bool hs2,.bool op2] 28))):=((Below.refl _ _).alloc (Nat.le_refl _) _).alloc (by simp) _
 have HX01 : Hid (((w.alloc (.cells #[.int .u8 k1,.slice p1 is1.length d1,.slice a1 of1.length c1,.int .i64 lo1,.bool ls1,.int .i64 hi1,.bool hs1,.bool op1] 28)).alloc (.cells #[.int .u8 k2,.slice p2 is2.length d2,.slice a2 of2.length c2,.int .i64 lo2,.bool ls2,.int .i64 hi2,.bool hs2,.bool op2] 28)).cell? ⟨w.heap.size,1,none⟩ = some (.slice p1 is1.length d1)):=Lib.cell_of_heap (sm_in (z2w rfl)) 1
 have HX02 : Hid (((w.alloc (.cells #[.int .u8 k1,.slice p1 is1.length d1,.slice a1 of1.length c1,.int .i64 lo1,.bool ls1,.int .i64 hi1,.bool hs1,.bool op1] 28)).alloc (.cells #[.int .u8 k2,.slice p2 is2.length d2,.slice a2 of2.length c2,.int .i64 lo2,.bool ls2,.int .i64 hi2,.bool hs2,.bool op2] 28)).cell? ⟨w.heap.size,2,none⟩ = some (.slice a1 of1.length c1)):=Lib.cell_of_heap (sm_in (z2w rfl)) 2
 have HX11 : Hid (((w.alloc (.cells #[.int .u8 k1,.slice p1 is1.length d1,.slice a1 of1.length c1,.int .i64 lo1,.bool ls1,.int .i64 hi1,.bool hs1,.bool op1] 28)).alloc (.cells #[.int .u8 k2,.slice p2 is2.length d2,.slice a2 of2.length c2,.int .i64 lo2,.bool ls2,.int .i64 hi2,.bool hs2,.bool op2] 28)).cell? ⟨w.heap.size + 1,1,none⟩ = some (.slice p2 is2.length d2)):=Lib.cell_of_heap (z2w (by simp)) 1
 have HX12 : Hid (((w.alloc (.cells #[.int .u8 k1,.slice p1 is1.length d1,.slice a1 of1.length c1,.int .i64 lo1,.bool ls1,.int .i64 hi1,.bool hs1,.bool op1] 28)).alloc (.cells #[.int .u8 k2,.slice p2 is2.length d2,.slice a2 of2.length c2,.int .i64 lo2,.bool ls2,.int .i64 hi2,.bool hs2,.bool op2] 28)).cell? ⟨w.heap.size + 1,2,none⟩ = some (.slice a2 of2.length c2)):=Lib.cell_of_heap (z2w (by simp)) 2
 have HR1:=Lib.hid hR1
 have HR2:=Lib.hid hR2
 have HF1:=Lib.hid hF1
 have HF2:=Lib.hid hF2
 have HIH:=Lib.hid ih
 clear hR1 hR2 hF1 hF2 ih
 have HI:=Lib.hid hi
 have q1 : (k1 == k2) = true:=by simpa using hk
 have q1' : (k1 != k2) = false:=by simp [bne,q1]
 have hc:=spn_split _ _ _ _ _ _ _ _ _ _ hi
 clear hk hi
 rcases hc with hq | ⟨rfl,hq⟩ | ⟨rfl,rfl,hq⟩ | ⟨rfl,rfl,rfl,hq⟩ | ⟨rfl,rfl,rfl,rfl,hq⟩
 all_goals
  go_enter Tryz.func20,Tryz.ntmps20
  go_wp2_with fail
  all_goals go_ret
  all_goals exact ⟨SaysP.mk rfl (HF.out false ⟨fun h => (by cases h),fun h => absurd h.2.1 HI.out⟩),HB.out⟩
theorem z6f (m m' n n' : Nat) (ih : ∀ n',EqX20 m m' n n') (k1 k2 : Int) (is1 : List (FT m)) (is2 : List (FT m')) (of1 : List (XT m n)) (of2 : List (XT m' n')) (lo1 hi1 lo2 hi2 : Int) (ls1 hs1 op1 ls2 hs2 op2 : Bool) (p1 p2 a1 a2 : Option Addr) (d1 d2 c1 c2 : Nat) (w : World)
 (hF1 : FRow w w.heap.size m p1 is1) (hF2 : FRow w w.heap.size m' p2 is2) (hR1 : XRow w w.heap.size m n a1 of1) (hR2 : XRow w w.heap.size m' n' a2 of2) (hk : k1 = k2) (hi : (⟨lo1,ls1,hi1,hs1,op1⟩ : Spn) = ⟨lo2,ls2,hi2,hs2,op2⟩) (hl : is1.length ≠ is2.length ∨ of1.length ≠ of2.length) :
 Calls Tryz.prog 20 #[.agg #[.int .u8 k1,.slice p1 is1.length d1,.slice a1 of1.length c1,.int .i64 lo1,.bool ls1,.int .i64 hi1,.bool hs1,.bool op1],.agg #[.int .u8 k2,.slice p2 is2.length d2,.slice a2 of2.length c2,.int .i64 lo2,.bool ls2,.int .i64 hi2,.bool hs2,.bool op2]] w fun e w' => SaysP (toX (n + 1) ((k1,is1,of1,⟨lo1,ls1,hi1,hs1,op1⟩) : XT m (n + 1)) = toX (n' + 1) ((k2,is2,of2,⟨lo2,ls2,hi2,hs2,op2⟩) : XT m' (n' + 1))) e ∧ Below w.heap.size w w':=by
 have HF : Hid (∀ b : Bool,(b = true ↔ (k1 = k2 ∧ (⟨lo1,ls1,hi1,hs1,op1⟩ : Spn) = ⟨lo2,ls2,hi2,hs2,op2⟩ ∧ is1.map (toF m) = is2.map (toF m') ∧ of1.map (toX n) = of2.map (toX n'))) → (b = true ↔ toX (n + 1) ((k1,is1,of1,⟨lo1,ls1,hi1,hs1,op1⟩) : XT m (n + 1)) = toX (n' + 1) ((k2,is2,of2,⟨lo2,ls2,hi2,hs2,op2⟩) : XT m' (n' + 1)))):=by
  intro b hb
  show b = true ↔ X.mk k1 (is1.map (toF m)) (of1.map (toX n)) ⟨lo1,ls1,hi1,hs1,op1⟩ = X.mk k2 (is2.map (toF m')) (of2.map (toX n')) ⟨lo2,ls2,hi2,hs2,op2⟩
  rw [hb,X.mk.injEq]
  exact ⟨fun ⟨h1,h2,h3,h4⟩ => ⟨h1,h3,h4,h2⟩,fun ⟨h1,h3,h4,h2⟩ => ⟨h1,h2,h3,h4⟩⟩
 have hm1:=hR1.1
 have hm2:=hR2.1
 have hm3:=hF1.1
 have hm4:=hF2.1
 have HB : Hid (Below w.heap.size w ((w.alloc (.cells #[.int .u8 k1,.slice p1 is1.length d1,.slice a1 of1.length c1,.int .i64 lo1,.bool ls1,.int .i64 hi1,.bool hs1,.bool op1] 28)).alloc (.cells #[.int .u8 k2,.slice p2 is2.length d2,.slice a2 of2.length c2,.int .i64 lo2,.bool ls2,.int .i64 hi2,.bool hs2,.bool op2] 28))):=((Below.refl _ _).alloc (Nat.le_refl _) _).alloc (by simp) _
 have HX01 : Hid (((w.alloc (.cells #[.int .u8 k1,.slice p1 is1.length d1,.slice a1 of1.length c1,.int .i64 lo1,.bool ls1,.int .i64 hi1,.bool hs1,.bool op1] 28)).alloc (.cells #[.int .u8 k2,.slice p2 is2.length d2,.slice a2 of2.length c2,.int .i64 lo2,.bool ls2,.int .i64 hi2,.bool hs2,.bool op2] 28)).cell? ⟨w.heap.size,1,none⟩ = some (.slice p1 is1.length d1)):=Lib.cell_of_heap (sm_in (z2w rfl)) 1
 have HX02 : Hid (((w.alloc (.cells #[.int .u8 k1,.slice p1 is1.length d1,.slice a1 of1.length c1,.int .i64 lo1,.bool ls1,.int .i64 hi1,.bool hs1,.bool op1] 28)).alloc (.cells #[.int .u8 k2,.slice p2 is2.length d2,.slice a2 of2.length c2,.int .i64 lo2,.bool ls2,.int .i64 hi2,.bool hs2,.bool op2] 28)).cell? ⟨w.heap.size,2,none⟩ = some (.slice a1 of1.length c1)):=Lib.cell_of_heap (sm_in (z2w rfl)) 2
 have HX11 : Hid (((w.alloc (.cells #[.int .u8 k1,.slice p1 is1.length d1,.slice a1 of1.length c1,.int .i64 lo1,.bool ls1,.int .i64 hi1,.bool hs1,.bool op1] 28)).alloc (.cells #[.int .u8 k2,.slice p2 is2.length d2,.slice a2 of2.length c2,.int .i64 lo2,.bool ls2,.int .i64 hi2,.bool hs2,.bool op2] 28)).cell? ⟨w.heap.size + 1,1,none⟩ = some (.slice p2 is2.length d2)):=Lib.cell_of_heap (z2w (by simp)) 1
 have HX12 : Hid (((w.alloc (.cells #[.int .u8 k1,.slice p1 is1.length d1,.slice a1 of1.length c1,.int .i64 lo1,.bool ls1,.int .i64 hi1,.bool hs1,.bool op1] 28)).alloc (.cells #[.int .u8 k2,.slice p2 is2.length d2,.slice a2 of2.length c2,.int .i64 lo2,.bool ls2,.int .i64 hi2,.bool hs2,.bool op2] 28)).cell? ⟨w.heap.size + 1,2,none⟩ = some (.slice a2 of2.length c2)):=Lib.cell_of_heap (z2w (by simp)) 2
 have HR1:=Lib.hid hR1
 have HR2:=Lib.hid hR2
 have HF1:=Lib.hid hF1
 have HF2:=Lib.hid hF2
 have HIH:=Lib.hid ih
 clear hR1 hR2 hF1 hF2 ih
 have q1 : (k1 == k2) = true:=by simpa using hk
 have q1' : (k1 != k2) = false:=by simp [bne,q1]
 simp only [Spn.mk.injEq] at hi
 obtain ⟨rfl,rfl,rfl,rfl,rfl⟩:=hi
 by_cases hl1 : is1.length = is2.length
 ·have q3 : (((is1.length : Nat) : Int) != ((is2.length : Nat) : Int)) = false:=by rw [bne_eq_false_iff_eq]; omega
  have q4 : (((of1.length : Nat) : Int) != ((of2.length : Nat) : Int)) = true:=by rw [bne_iff_ne]; omega
  have HNE : Hid (¬ of1.map (toX n) = of2.map (toX n')):=fun h => by have:=congrArg List.length h; simp at this; omega
  clear hl hl1 hk
  go_enter Tryz.func20,Tryz.ntmps20
  go_wp2_with fail
  all_goals go_ret
  all_goals exact ⟨SaysP.mk rfl (HF.out false ⟨fun h => (by cases h),fun h => absurd h.2.2.2 HNE.out⟩),HB.out⟩
 ·have q3 : (((is1.length : Nat) : Int) != ((is2.length : Nat) : Int)) = true:=by rw [bne_iff_ne]; omega
  have HNE : Hid (¬ is1.map (toF m) = is2.map (toF m')):=fun h => by have:=congrArg List.length h; simp at this; omega
  clear hl hl1 hk
  go_enter Tryz.func20,Tryz.ntmps20
  go_wp2_with fail
  all_goals go_ret
  all_goals exact ⟨SaysP.mk rfl (HF.out false ⟨fun h => (by cases h),fun h => absurd h.2.2.1 HNE.out⟩),HB.out⟩
theorem same20_on (m m' n n' : Nat) (ih : ∀ n',EqX20 m m' n n') (k1 k2 : Int) (is1 : List (FT m)) (is2 : List (FT m')) (of1 : List (XT m n)) (of2 : List (XT m' n')) (lo1 hi1 lo2 hi2 : Int) (ls1 hs1 op1 ls2 hs2 op2 : Bool) (p1 p2 a1 a2 : Option Addr) (d1 d2 c1 c2 : Nat) (w : World)
 (hF1 : FRow w w.heap.size m p1 is1) (hF2 : FRow w w.heap.size m' p2 is2) (hR1 : XRow w w.heap.size m n a1 of1) (hR2 : XRow w w.heap.size m' n' a2 of2) (hk : k1 = k2) (hi : (⟨lo1,ls1,hi1,hs1,op1⟩ : Spn) = ⟨lo2,ls2,hi2,hs2,op2⟩) (hl1 : is1.length = is2.length) (hl2 : of1.length = of2.length) :
 Calls Tryz.prog 20 #[.agg #[.int .u8 k1,.slice p1 is1.length d1,.slice a1 of1.length c1,.int .i64 lo1,.bool ls1,.int .i64 hi1,.bool hs1,.bool op1],.agg #[.int .u8 k2,.slice p2 is2.length d2,.slice a2 of2.length c2,.int .i64 lo2,.bool ls2,.int .i64 hi2,.bool hs2,.bool op2]] w fun e w' => SaysP (toX (n + 1) ((k1,is1,of1,⟨lo1,ls1,hi1,hs1,op1⟩) : XT m (n + 1)) = toX (n' + 1) ((k2,is2,of2,⟨lo2,ls2,hi2,hs2,op2⟩) : XT m' (n' + 1))) e ∧ Below w.heap.size w w':=by
 have HF : Hid (∀ b : Bool,(b = true ↔ (k1 = k2 ∧ (⟨lo1,ls1,hi1,hs1,op1⟩ : Spn) = ⟨lo2,ls2,hi2,hs2,op2⟩ ∧ is1.map (toF m) = is2.map (toF m') ∧ of1.map (toX n) = of2.map (toX n'))) → (b = true ↔ toX (n + 1) ((k1,is1,of1,⟨lo1,ls1,hi1,hs1,op1⟩) : XT m (n + 1)) = toX (n' + 1) ((k2,is2,of2,⟨lo2,ls2,hi2,hs2,op2⟩) : XT m' (n' + 1)))):=by
  intro b hb
  show b = true ↔ X.mk k1 (is1.map (toF m)) (of1.map (toX n)) ⟨lo1,ls1,hi1,hs1,op1⟩ = X.mk k2 (is2.map (toF m')) (of2.map (toX n')) ⟨lo2,ls2,hi2,hs2,op2⟩
  rw [hb,X.mk.injEq]
  exact ⟨fun ⟨h1,h2,h3,h4⟩ => ⟨h1,h3,h4,h2⟩,fun ⟨h1,h3,h4,h2⟩ => ⟨h1,h2,h3,h4⟩⟩
 have hm1:=hR1.1
 have hm2:=hR2.1
 have hm3:=hF1.1
 have hm4:=hF2.1
 have HB : Hid (Below w.heap.size w ((w.alloc (.cells #[.int .u8 k1,.slice p1 is1.length d1,.slice a1 of1.length c1,.int .i64 lo1,.bool ls1,.int .i64 hi1,.bool hs1,.bool op1] 28)).alloc (.cells #[.int .u8 k2,.slice p2 is2.length d2,.slice a2 of2.length c2,.int .i64 lo2,.bool ls2,.int .i64 hi2,.bool hs2,.bool op2] 28))):=((Below.refl _ _).alloc (Nat.le_refl _) _).alloc (by simp) _
 have HX01 : Hid (((w.alloc (.cells #[.int .u8 k1,.slice p1 is1.length d1,.slice a1 of1.length c1,.int .i64 lo1,.bool ls1,.int .i64 hi1,.bool hs1,.bool op1] 28)).alloc (.cells #[.int .u8 k2,.slice p2 is2.length d2,.slice a2 of2.length c2,.int .i64 lo2,.bool ls2,.int .i64 hi2,.bool hs2,.bool op2] 28)).cell? ⟨w.heap.size,1,none⟩ = some (.slice p1 is1.length d1)):=Lib.cell_of_heap (sm_in (z2w rfl)) 1
 have HX02 : Hid (((w.alloc (.cells #[.int .u8 k1,.slice p1 is1.length d1,.slice a1 of1.length c1,.int .i64 lo1,.bool ls1,.int .i64 hi1,.bool hs1,.bool op1] 28)).alloc (.cells #[.int .u8 k2,.slice p2 is2.length d2,.slice a2 of2.length c2,.int .i64 lo2,.bool ls2,.int .i64 hi2,.bool hs2,.bool op2] 28)).cell? ⟨w.heap.size,2,none⟩ = some (.slice a1 of1.length c1)):=Lib.cell_of_heap (sm_in (z2w rfl)) 2
 have HX11 : Hid (((w.alloc (.cells #[.int .u8 k1,.slice p1 is1.length d1,.slice a1 of1.length c1,.int .i64 lo1,.bool ls1,.int .i64 hi1,.bool hs1,.bool op1] 28)).alloc (.cells #[.int .u8 k2,.slice p2 is2.length d2,.slice a2 of2.length c2,.int .i64 lo2,.bool ls2,.int .i64 hi2,.bool hs2,.bool op2] 28)).cell? ⟨w.heap.size + 1,1,none⟩ = some (.slice p2 is2.length d2)):=Lib.cell_of_heap (z2w (by simp)) 1
 have HX12 : Hid (((w.alloc (.cells #[.int .u8 k1,.slice p1 is1.length d1,.slice a1 of1.length c1,.int .i64 lo1,.bool ls1,.int .i64 hi1,.bool hs1,.bool op1] 28)).alloc (.cells #[.int .u8 k2,.slice p2 is2.length d2,.slice a2 of2.length c2,.int .i64 lo2,.bool ls2,.int .i64 hi2,.bool hs2,.bool op2] 28)).cell? ⟨w.heap.size + 1,2,none⟩ = some (.slice a2 of2.length c2)):=Lib.cell_of_heap (z2w (by simp)) 2
 have HR1:=Lib.hid hR1
 have HR2:=Lib.hid hR2
 have HF1:=Lib.hid hF1
 have HF2:=Lib.hid hF2
 have HIH:=Lib.hid ih
 clear hR1 hR2 hF1 hF2 ih
 have q1 : (k1 == k2) = true:=by simpa using hk
 have q1' : (k1 != k2) = false:=by simp [bne,q1]
 have HK:=Lib.hid hk
 have HK2:=Lib.hid hi
 have HLEN:=Lib.hid hl1
 have HLEN2:=Lib.hid hl2
 have q3 : (((is1.length : Nat) : Int) != ((is2.length : Nat) : Int)) = false:=by rw [bne_eq_false_iff_eq]; omega
 have q4 : (((of1.length : Nat) : Int) != ((of2.length : Nat) : Int)) = false:=by rw [bne_eq_false_iff_eq]; omega
 simp only [Spn.mk.injEq] at hi
 obtain ⟨rfl,rfl,rfl,rfl,rfl⟩:=hi
 clear hl1 hl2 hk
 go_enter Tryz.func20,Tryz.ntmps20
 go_wp2_with fail
 clear q1 q1' q3 q4
 go_loopw [5] (fun i wr => ∃ j : Nat,j ≤ is1.length ∧ i = .int .i64 j ∧ Hid ((is1.take j).map (toF m) = (is2.take j).map (toF m')) ∧ Below w.heap.size w wr ∧ w.heap.size + 1 < wr.heap.size ∧ wr.cell? ⟨w.heap.size,1,none⟩ = some (.slice p1 is1.length d1) ∧ wr.cell? ⟨w.heap.size,2,none⟩ = some (.slice a1 of1.length c1) ∧ wr.cell? ⟨w.heap.size + 1,1,none⟩ = some (.slice p2 is2.length d2) ∧ wr.cell? ⟨w.heap.size + 1,2,none⟩ = some (.slice a2 of2.length c2)) (fun i _ => is1.length - (intOf i).toNat)
 case atStart => exact ⟨0,Nat.zero_le _,rfl,rfl,HB.out,by simp,HX01.out,HX02.out,HX11.out,HX12.out⟩
 case round =>
  obtain ⟨j,hj,rfl,HT,hbw,hsz,hb01,hb02,hb11,hb12⟩:=hrel
  have HBW:=Lib.hid hbw
  by_cases hlt : j < is1.length
  ·have hlt' : j < is2.length:=HLEN.out ▸ hlt
   have hltI : ((j : Nat) : Int) < ((is1.length : Nat) : Int):=by omega
   have hltJ : ((j : Nat) : Int) < ((is2.length : Nat) : Int):=by omega
   obtain ⟨q1,off1,x1,y1,z1a,z1b,z1c,rfl,hq1,u0,u1,u2,hr1⟩:=(FRow.up HF1.out hbw (Nat.le_refl _)).at j hlt
   obtain ⟨q2,off2,x2,y2,z2a,z2b,z2c,rfl,hq2,v0,v1,v2,hr2⟩:=(FRow.up HF2.out hbw (Nat.le_refl _)).at j hlt'
   have hz:=hbw.size
   have hq1' : q1 < wr.heap.size:=by omega
   have hq2' : q2 < wr.heap.size:=by omega
   have HC:=Lib.hid (same41_any m m' is1[j] is2[j] _ _ wr.drew (hr1.up (Below.drew (Below.refl _ _)) (by simp; omega)) (hr2.up (Below.drew (Below.refl _ _)) (by simp; omega)))
   have HS : Hid (∀ b : Bool,(b = true ↔ (toF m) is1[j] = (toF m') is2[j]) → (b = true ↔ (is1.take (j + 1)).map (toF m) = (is2.take (j + 1)).map (toF m'))):=by
    intro b hb
    rw [List.take_succ_eq_append_getElem hlt,List.take_succ_eq_append_getElem hlt',List.map_append,List.map_append,HT.out,hb]
    constructor
    ·intro h; simp [h]
    ·intro h; simpa using List.append_cancel_left h
   have HNE : Hid (¬ ((is1.take (j + 1)).map (toF m) = (is2.take (j + 1)).map (toF m')) → ¬ (is1.map (toF m) = is2.map (toF m'))):=by
    intro h h2
    refine h ?_
    rw [List.map_take,List.map_take,h2]
   clear hr1 hr2 hbw
   go_upto_region 6 with fail
   go_still_tail 10,(by kernel_rfl)
   change wpList _ _ _ _ _ wr.drew
   go_wp2_with fail
   refine HC.out.mono ?_
   rintro e w3 ⟨⟨b,rfl,hb0⟩,hb3⟩
   have hb:=Lib.hid hb0
   clear hb0
   have HB3:=Lib.hid (HBW.out.trans ((Below.refl w.heap.size wr).drew.trans (hb3.mono hz)))
   have hsz3 : w.heap.size + 1 < w3.heap.size:=by have:=hb3.size; simp at this; omega
   have g01:=(hb3.cell (p:=⟨w.heap.size,1,none⟩) (by simp; omega)).trans hb01
   have g02:=(hb3.cell (p:=⟨w.heap.size,2,none⟩) (by simp; omega)).trans hb02
   have g11:=(hb3.cell (p:=⟨w.heap.size + 1,1,none⟩) (by simp; omega)).trans hb11
   have g12:=(hb3.cell (p:=⟨w.heap.size + 1,2,none⟩) (by simp; omega)).trans hb12
   have HSB:=Lib.hid (HS.out b hb.out)
   clear hb hb3 u0 u1 u2 v0 v1 v2
   cases b with
   | true =>
    go_wp2_with fail
    go_roundw
    case rel => exact ⟨j + 1,by omega,by go_num,HSB.out.1 (by first | trivial | rfl),HB3.out,hsz3,g01,g02,g11,g12⟩
    case measure => simp [intOf]; omega
   | false =>
    have HNO:=Lib.hid (HNE.out (fun h => by cases HSB.out.2 h))
    clear HS HSB HNE
    go_wp2_with fail
    all_goals go_ret
    all_goals exact ⟨SaysP.mk rfl (HF.out false ⟨fun h => (by cases h),fun h => absurd h.2.2.1 HNO.out⟩),HB3.out⟩
  ·have hje : j = is1.length:=by omega
   have HE : Hid (is1.map (toF m) = is2.map (toF m')):=by
    rw [Hid]; have:=HT.out; rw [hje,List.take_length,HLEN.out,List.take_length] at this; exact this
   have hltI : ¬ ((j : Nat) : Int) < ((is1.length : Nat) : Int):=by omega
   clear HT hje
   have HEI:=HE
   clear HE hbw HLEN
   have HLEN:=HLEN2
   go_wp2_with fail
   go_loopw [6] (fun i wr => ∃ j : Nat,j ≤ of1.length ∧ i = .int .i64 j ∧ Hid ((of1.take j).map (toX n) = (of2.take j).map (toX n')) ∧ Below w.heap.size w wr ∧ w.heap.size + 1 < wr.heap.size ∧ wr.cell? ⟨w.heap.size,2,none⟩ = some (.slice a1 of1.length c1) ∧ wr.cell? ⟨w.heap.size + 1,2,none⟩ = some (.slice a2 of2.length c2)) (fun i _ => of1.length - (intOf i).toNat)
   case atStart => exact ⟨0,Nat.zero_le _,rfl,rfl,HBW.out,hsz,hb02,hb12⟩
   case round =>
    clear HBW hsz hb01 hb02 hb11 hb12 hj hltI
    obtain ⟨j,hj,rfl,HT,hbw,hsz,hb02,hb12⟩:=hrel
    have HBW:=Lib.hid hbw
    by_cases hlt : j < of1.length
    ·have hlt' : j < of2.length:=HLEN.out ▸ hlt
     have hltI : ((j : Nat) : Int) < ((of1.length : Nat) : Int):=by omega
     have hltJ : ((j : Nat) : Int) < ((of2.length : Nat) : Int):=by omega
     obtain ⟨q1,off1,x1,e1a,e1b,e1c,f1a,f1b,f1c,lo1',ls1',hi1',hs1',op1',rfl,hq1,u0,u1,u2,u3,u4,u5,u6,u7,hr1⟩:=(XRow.up HR1.out hbw (Nat.le_refl _)).at j hlt
     obtain ⟨q2,off2,x2,e2a,e2b,e2c,f2a,f2b,f2c,lo2',ls2',hi2',hs2',op2',rfl,hq2,v0,v1,v2,v3,v4,v5,v6,v7,hr2⟩:=(XRow.up HR2.out hbw (Nat.le_refl _)).at j hlt'
     have hz:=hbw.size
     have hq1' : q1 < wr.heap.size:=by omega
     have hq2' : q2 < wr.heap.size:=by omega
     have HC:=Lib.hid (HIH.out n' of1[j] of2[j] _ _ wr.drew (hr1.up (Below.drew (Below.refl _ _)) (by simp; omega)) (hr2.up (Below.drew (Below.refl _ _)) (by simp; omega)))
     have HS : Hid (∀ b : Bool,(b = true ↔ (toX n) of1[j] = (toX n') of2[j]) → (b = true ↔ (of1.take (j + 1)).map (toX n) = (of2.take (j + 1)).map (toX n'))):=by
      intro b hb
      rw [List.take_succ_eq_append_getElem hlt,List.take_succ_eq_append_getElem hlt',List.map_append,List.map_append,HT.out,hb]
      constructor
      ·intro h; simp [h]
      ·intro h; simpa using List.append_cancel_left h
     have HNE : Hid (¬ ((of1.take (j + 1)).map (toX n) = (of2.take (j + 1)).map (toX n')) → ¬ (of1.map (toX n) = of2.map (toX n'))):=by
      intro h h2
      refine h ?_
      rw [List.map_take,List.map_take,h2]
     clear hr1 hr2 hbw
     go_upto_region 11 with fail
     go_still_tail 10,(by kernel_rfl)
     change wpList _ _ _ _ _ wr.drew
     go_wp2_with fail
     refine HC.out.mono ?_
     rintro e w3 ⟨⟨b,rfl,hb0⟩,hb3⟩
     have hb:=Lib.hid hb0
     clear hb0
     have HB3:=Lib.hid (HBW.out.trans ((Below.refl w.heap.size wr).drew.trans (hb3.mono hz)))
     have hsz3 : w.heap.size + 1 < w3.heap.size:=by have:=hb3.size; simp at this; omega
     have g02:=(hb3.cell (p:=⟨w.heap.size,2,none⟩) (by simp; omega)).trans hb02
     have g12:=(hb3.cell (p:=⟨w.heap.size + 1,2,none⟩) (by simp; omega)).trans hb12
     have HSB:=Lib.hid (HS.out b hb.out)
     clear hb hb3 u0 u1 u2 u3 u4 u5 u6 u7 v0 v1 v2 v3 v4 v5 v6 v7
     cases b with
     | true =>
      go_wp2_with fail
      go_roundw
      case rel => exact ⟨j + 1,by omega,by go_num,HSB.out.1 (by first | trivial | rfl),HB3.out,hsz3,g02,g12⟩
      case measure => simp [intOf]; omega
     | false =>
      have HNO:=Lib.hid (HNE.out (fun h => by cases HSB.out.2 h))
      clear HS HSB HNE
      go_wp2_with fail
      all_goals go_ret
      all_goals exact ⟨SaysP.mk rfl (HF.out false ⟨fun h => (by cases h),fun h => absurd h.2.2.2 HNO.out⟩),HB3.out⟩
    ·have hje : j = of1.length:=by omega
     have HE : Hid (of1.map (toX n) = of2.map (toX n')):=by
      rw [Hid]; have:=HT.out; rw [hje,List.take_length,HLEN.out,List.take_length] at this; exact this
     have hltI : ¬ ((j : Nat) : Int) < ((of1.length : Nat) : Int):=by omega
     clear HT hje
     go_wp2_with fail
     all_goals go_ret
     all_goals exact ⟨SaysP.mk rfl (HF.out true ⟨fun _ => ⟨HK.out,HK2.out,HEI.out,HE.out⟩,fun _ => rfl⟩),HBW.out⟩
theorem same20_any (m m' : Nat) : ∀ n n' : Nat,EqX20 m m' n n':=by
 intro n
 induction n with
 | zero => intro n' t u v v' w h; exact h.elim
 | succ n ih =>
  intro n' t u v v' w h h'
  cases n' with
  | zero => exact h'.elim
  | succ n' =>
   obtain ⟨k1,is1,of1,lo1,ls1,hi1,hs1,op1⟩:=t
   obtain ⟨k2,is2,of2,lo2,ls2,hi2,hs2,op2⟩:=u
   obtain ⟨p1,d1,a1,c1,rfl,hF1,hR1⟩:=h
   obtain ⟨p2,d2,a2,c2,rfl,hF2,hR2⟩:=h'
   dsimp only at hF1 hR1 hF2 hR2 ⊢
   by_cases hk : k1 = k2
   ·by_cases hi : (⟨lo1,ls1,hi1,hs1,op1⟩ : Spn) = ⟨lo2,ls2,hi2,hs2,op2⟩
    ·by_cases hl1 : is1.length = is2.length
     ·by_cases hl2 : of1.length = of2.length
      ·exact same20_on m m' n n' ih k1 k2 is1 is2 of1 of2 lo1 hi1 lo2 hi2 ls1 hs1 op1 ls2 hs2 op2 p1 p2 a1 a2 d1 d2 c1 c2 w hF1 hF2 hR1 hR2 hk hi hl1 hl2
      ·exact z6f m m' n n' ih k1 k2 is1 is2 of1 of2 lo1 hi1 lo2 hi2 ls1 hs1 op1 ls2 hs2 op2 p1 p2 a1 a2 d1 d2 c1 c2 w hF1 hF2 hR1 hR2 hk hi (.inr hl2)
     ·exact z6f m m' n n' ih k1 k2 is1 is2 of1 of2 lo1 hi1 lo2 hi2 ls1 hs1 op1 ls2 hs2 op2 p1 p2 a1 a2 d1 d2 c1 c2 w hF1 hF2 hR1 hR2 hk hi (.inl hl1)
    ·exact same20_in m m' n n' ih k1 k2 is1 is2 of1 of2 lo1 hi1 lo2 hi2 ls1 hs1 op1 ls2 hs2 op2 p1 p2 a1 a2 d1 d2 c1 c2 w hF1 hF2 hR1 hR2 hk hi
   ·exact same20_kind m m' n n' ih k1 k2 is1 is2 of1 of2 lo1 hi1 lo2 hi2 ls1 hs1 op1 ls2 hs2 op2 p1 p2 a1 a2 d1 d2 c1 c2 w hF1 hF2 hR1 hR2 hk
end Go.Proofs.YtpgdplmndnopbaaGreatDoor
