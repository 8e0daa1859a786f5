/- The book of layer 16: nodes, and what is wrong with an expression. (Printed by gen_bkg.py.) -/
import Derived.Test.YtpgdplmndnopbaaGreatDoorZ17
import Derived.Test.YtpgdplmndnopbaaGreatDoorZ06
import Derived.Test.YtpgdplmndnopbaaGreatDoorZ02
import Derived.Test.YtpgdplmndnopbaaGreatDoorZ03
import Derived.Lib.ItoaMem
import Derived.Test.YtpgdplmndnopbaaGreatDoorZ04
import Derived.Lib.OthersKept
import Derived.WalkMore
import Derived.Test.YtpgdplmndnopbaaGreatDoorZ00
import Derived.Test.YtpgdplmndnopbaaGreatDoorZ01
set_option maxRecDepth 100000
set_option maxHeartbeats 16000000
namespace Go.Proofs.YtpgdplmndnopbaaGreatDoor
open Go.RowKit
theorem szL_sum {α : Type} (f : α → Int → Int) (g : α → Nat) (most : Int) (hm : most ≤ 1048576) : ∀ (l : List α) (n : Int),(∀ x ∈ l,∀ k : Int,k ≤ 1048576 → (g x : Int) ≤ k → f x k = g x) → 0 ≤ n → n + (l.map g).sum ≤ most →
 szL f most l n = n + (l.map g).sum
 | [],n,_,_,_ => by simp [szL]
 | x :: r,n,H,h0,h1 => by
  simp only [List.map_cons,List.sum_cons] at h1 ⊢
  push_cast at h1 ⊢
  rw [szL,if_pos (by omega)]
  have hw : wrap64 (most - n) = most - n:=by unfold wrap64; omega
  have hf:=H x (by simp) (most - n) (by omega) (by omega)
  rw [hw,hf]
  have hw2 : wrap64 (n + (g x : Int)) = n + g x:=by unfold wrap64; omega
  rw [hw2,szL_sum f g most hm r (n + g x) (fun y hy => H y (by simp [hy])) (by omega) (by omega)]
  omega
theorem nodesF_n : ∀ (n : Nat) (t : FT n) (most : Int),most ≤ 1048576 → (nF n t : Int) ≤ most → z3u n t most = nF n t
 | 0,t,_,_,_ => nomatch t
 | n + 1,t,most,hm,h => by
  rw [nF] at h ⊢
  rw [z3u,szL_sum (z3u n) (nF n) most hm t.2.2 1 (fun x _ k hk hx => nodesF_n n x k hk hx) (by omega) (by push_cast at h ⊢; omega)]
  push_cast; rfl
theorem nodesF_cnt (n : Nat) (t : FT n) (h : nF n t ≤ 1000000) : z3u n t 1048576 = cntF n t:=by
 rw [nodesF_n n t _ (by omega) (by omega),cntF_n n t h]
def
 ManyC (m n : Nat) : Prop:=∀ (t : XT m n) (v : Value) (w : World),nX n t ≤ 1000000 → XRep w w.heap.size m n t v →
 Calls Tryz.prog 82 #[v] w fun e w' => e = .returned (.int .i64 (z2v n t)) ∧ Below w.heap.size w w'
theorem many82_one (m n : Nat) (ih : ManyC m n) (is : List (FT m)) (of : List (XT m n)) (a1 a : Option Addr) (c1 c : Nat) (lo hi : Int) (ls hs op : Bool) (w : World) (hR1 : FRow w w.heap.size m a1 is) (hR : XRow w w.heap.size m n a of)
 (hx : nX (n + 1) ((1,is,of,⟨lo,ls,hi,hs,op⟩) : XT m (n + 1)) ≤ 1000000) :
 Calls Tryz.prog 82 #[.agg #[.int .u8 1,.slice a1 is.length c1,.slice a of.length c,.int .i64 lo,.bool ls,.int .i64 hi,.bool hs,.bool op]] w fun e w' => e = .returned (.int .i64 (z2v (n + 1) ((1,is,of,⟨lo,ls,hi,hs,op⟩) : XT m (n + 1)))) ∧ Below w.heap.size w w':=by
 have hm:=hR.1
 have hm1:=hR1.1
 have HR:=Lib.hid hR
 have HR1:=Lib.hid hR1
 have HIH:=Lib.hid ih
 have hb0 : Below w.heap.size w (w.alloc (.cells #[.int .u8 1,.slice a1 is.length c1,.slice a of.length c,.int .i64 lo,.bool ls,.int .i64 hi,.bool hs,.bool op] 28)):=(Below.refl _ w).alloc (Nat.le_refl _) _
 have HB0:=Lib.hid hb0
 have HA : Hid (z2v (n + 1) ((1,is,of,⟨lo,ls,hi,hs,op⟩) : XT m (n + 1)) = z2e (z2v n) (oneX 1 is) of):=rfl
 have HNX : Hid (∀ x ∈ of,nX n x ≤ 1000000):=by
  intro x h
  have:=le_sum (nX n) of x h
  have hx : (if (1 : Int) = 1 then (is.map (nF m)).sum else 1) + (of.map (nX n)).sum ≤ 1000000:=hx
  omega
 have HNF : Hid (∀ x ∈ is,z3u m x 1048576 = cntF m x):=by
  intro x h
  have:=le_sum (nF m) is x h
  have hx : (is.map (nF m)).sum + (of.map (nX n)).sum ≤ 1000000:=hx
  exact nodesF_cnt m x (by omega)
 have HN130 : Hid (∀ (x : FT m) (v : Value) (w : World),x ∈ is → FRep w w.heap.size m x v → Calls Tryz.prog 130 #[v,.int .i64 1048576] w fun e w' => e = .returned (.int .i64 (cntF m x)) ∧ Below w.heap.size w w'):=by
  intro x v w hx h
  rw [← HNF.out x hx]
  exact nodes130_any m x v 1048576 w h
 clear hR hR1 ih hb0 hx HNF
 go_enter Tryz.func82,Tryz.ntmps82
 go_wp2_with fail
 go_loopw [3,4] (fun q i wr => ∃ (j : Nat) (z : Int),j ≤ is.length ∧ i = .int .i64 j ∧ q = .int .i64 z ∧ Hid (z2e (cntF m) 0 (is.take j) = z) ∧ Below w.heap.size w wr ∧ w.heap.size < wr.heap.size ∧ wr.cell? ⟨w.heap.size,0,none⟩ = some (.int .u8 1) ∧ wr.cell? ⟨w.heap.size,1,none⟩ = some (.slice a1 is.length c1) ∧ wr.cell? ⟨w.heap.size,2,none⟩ = some (.slice a of.length c)) (fun _ i _ => is.length - (intOf i).toNat)
 case atStart => exact ⟨0,_,Nat.zero_le _,rfl,rfl,rfl,HB0.out,by simp,by simp [World.cell?_alloc_at],by simp [World.cell?_alloc_at],by simp [World.cell?_alloc_at]⟩
 case round =>
  obtain ⟨j,z,hj,rfl,rfl,HT,hbw,hsz,hbox0,hbox1,hbox2⟩:=hrel
  have HBW:=Lib.hid hbw
  by_cases hlt : j < is.length
  ·have hltI : ((j : Nat) : Int) < ((is.length : Nat) : Int):=by omega
   obtain ⟨b,off,k',s',sa,sl,sc,rfl,hbl,c0,c1,c2,hr⟩:=(FRow.up HR1.out hbw (Nat.le_refl _)).at j hlt
   have hz:=hbw.size
   have hbl' : b < wr.heap.size:=by omega
   have HC:=Lib.hid (HN130.out is[j] _ wr (List.getElem_mem hlt) (hr.up (Below.refl _ _) hz))
   have HS:=Lib.hid (z3i (cntF m) 0 is j hlt)
   clear hr hbw
   generalize (cntF m) is[j] = y at HC HS
   have HT' : Hid (z2e (cntF m) 0 (is.take (j + 1)) = wrap64 (z + y)):=by rw [Hid,HS.out,HT.out]
   go_wp2_with fail
   refine HC.out.mono ?_
   rintro e w3 ⟨rfl,hb3⟩
   have HB3:=Lib.hid (HBW.out.trans (hb3.mono hz))
   have hsz3 : w.heap.size < w3.heap.size:=by have:=hb3.size; omega
   have gbox0:=(hb3.cell (p:=⟨w.heap.size,0,none⟩) hsz).trans hbox0
   have gbox1:=(hb3.cell (p:=⟨w.heap.size,1,none⟩) hsz).trans hbox1
   have gbox2:=(hb3.cell (p:=⟨w.heap.size,2,none⟩) hsz).trans hbox2
   clear hb3
   go_wp2_with fail
   go_roundw
   case rel => exact ⟨j + 1,_,by omega,by go_num,rfl,HT',HB3.out,hsz3,gbox0,gbox1,gbox2⟩
   case measure => simp [intOf]; omega
  ·have hje : j = is.length:=by omega
   subst hje
   have hltI : ¬ ((is.length : Nat) : Int) < ((is.length : Nat) : Int):=by omega
   have HALL : Hid (z2e (cntF m) 0 is = z):=by have h:=HT.out; rw [List.take_length] at h; exact h
   clear HT
   have HO : Hid (z2e (z2v n) (oneX 1 is) (of.take 0) = z):=HALL.out
   clear HALL hbw
   go_wp2_with fail
   go_loopw [3,5] (fun q i wr => ∃ (j : Nat) (z : Int),j ≤ of.length ∧ i = .int .i64 j ∧ q = .int .i64 z ∧ Hid (z2e (z2v n) (oneX 1 is) (of.take j) = z) ∧ Below w.heap.size w wr ∧ w.heap.size < wr.heap.size ∧ wr.cell? ⟨w.heap.size,2,none⟩ = some (.slice a of.length c)) (fun _ i _ => of.length - (intOf i).toNat)
   case atStart => exact ⟨0,_,Nat.zero_le _,rfl,rfl,HO,HBW.out,hsz,hbox2⟩
   case round =>
    clear HBW HO hsz hj hbox2
    try clear hbox0
    try clear hbox1
    try clear hltI
    obtain ⟨j,z,hj,rfl,rfl,HT,hbw,hsz,hbox2⟩:=hrel
    have HBW:=Lib.hid hbw
    by_cases hlt : j < of.length
    ·have hltI : ((j : Nat) : Int) < ((of.length : Nat) : Int):=by omega
     obtain ⟨b,off,k',a1',l1',c1',a2',l2',c2',lo',ls',hi',hs',op',rfl,hbl,c0,d1,c2,c3,c4,c5,c6,c7,hr⟩:=(XRow.up HR.out hbw (Nat.le_refl _)).at j hlt
     have hz:=hbw.size
     have hbl' : b < wr.heap.size:=by omega
     have HC:=Lib.hid (HIH.out of[j] _ wr (HNX.out _ (List.getElem_mem hlt)) (hr.up (Below.refl _ _) hz))
     have HS:=Lib.hid (z3i (z2v n) (oneX 1 is) of j hlt)
     clear hr hbw
     generalize (z2v n) of[j] = y at HC HS
     have HT' : Hid (z2e (z2v n) (oneX 1 is) (of.take (j + 1)) = wrap64 (z + y)):=by rw [Hid,HS.out,HT.out]
     go_wp2_with fail
     refine HC.out.mono ?_
     rintro e w3 ⟨rfl,hb3⟩
     have HB3:=Lib.hid (HBW.out.trans (hb3.mono hz))
     have hsz3 : w.heap.size < w3.heap.size:=by have:=hb3.size; omega
     have gbox2:=(hb3.cell (p:=⟨w.heap.size,2,none⟩) hsz).trans hbox2
     clear hb3
     go_wp2_with fail
     go_roundw
     case rel => exact ⟨j + 1,_,by omega,by go_num,rfl,HT',HB3.out,hsz3,gbox2⟩
     case measure => simp [intOf]; omega
    ·have hje : j = of.length:=by omega
     subst hje
     have hltI : ¬ ((of.length : Nat) : Int) < ((of.length : Nat) : Int):=by omega
     have HALL : Hid (z2e (z2v n) (oneX 1 is) of = z):=by have h:=HT.out; rw [List.take_length] at h; exact h
     clear HT
     go_wp2_with fail
     all_goals go_ret
     all_goals exact ⟨z2q (by rw [HA.out,HALL.out]),HBW.out⟩
theorem many82_other (m n : Nat) (ih : ManyC m n) (k : Int) (hk : k ≠ 1) (is : List (FT m)) (of : List (XT m n)) (a1 a : Option Addr) (c1 c : Nat) (lo hi : Int) (ls hs op : Bool) (w : World) (hR1 : FRow w w.heap.size m a1 is) (hR : XRow w w.heap.size m n a of)
 (hx : nX (n + 1) ((k,is,of,⟨lo,ls,hi,hs,op⟩) : XT m (n + 1)) ≤ 1000000) :
 Calls Tryz.prog 82 #[.agg #[.int .u8 k,.slice a1 is.length c1,.slice a of.length c,.int .i64 lo,.bool ls,.int .i64 hi,.bool hs,.bool op]] w fun e w' => e = .returned (.int .i64 (z2v (n + 1) ((k,is,of,⟨lo,ls,hi,hs,op⟩) : XT m (n + 1)))) ∧ Below w.heap.size w w':=by
 have hm:=hR.1
 have hm1:=hR1.1
 have HR:=Lib.hid hR
 have HR1:=Lib.hid hR1
 have HIH:=Lib.hid ih
 have hb0 : Below w.heap.size w (w.alloc (.cells #[.int .u8 k,.slice a1 is.length c1,.slice a of.length c,.int .i64 lo,.bool ls,.int .i64 hi,.bool hs,.bool op] 28)):=(Below.refl _ w).alloc (Nat.le_refl _) _
 have HB0:=Lib.hid hb0
 have HA : Hid (z2v (n + 1) ((k,is,of,⟨lo,ls,hi,hs,op⟩) : XT m (n + 1)) = z2e (z2v n) (oneX k is) of):=rfl
 have HNX : Hid (∀ x ∈ of,nX n x ≤ 1000000):=by
  intro x h
  have:=le_sum (nX n) of x h
  have hx : (if (k : Int) = 1 then (is.map (nF m)).sum else 1) + (of.map (nX n)).sum ≤ 1000000:=hx
  omega
 have q1 : (k == 1) = false:=by simpa using hk
 have HO1 : Hid (oneX k is = 1):=by rw [Hid]; unfold oneX; rw [if_neg hk]
 have HO : Hid (z2e (z2v n) (oneX k is) (of.take 0) = 1):=HO1.out
 clear hR hR1 ih hb0 hx hk HO1
 go_enter Tryz.func82,Tryz.ntmps82
 go_wp2_with fail
 go_loopw [3,4] (fun q i wr => q = .int .i64 1 ∧ i = .int .i64 0 ∧ wr = w.alloc (.cells #[.int .u8 k,.slice a1 is.length c1,.slice a of.length c,.int .i64 lo,.bool ls,.int .i64 hi,.bool hs,.bool op] 28)) (fun _ _ _ => 0)
 case atStart => exact ⟨rfl,rfl,rfl⟩
 case round =>
  obtain ⟨rfl,rfl,rfl⟩:=hrel
  have hbox2 : (w.alloc (.cells #[.int .u8 k,.slice a1 is.length c1,.slice a of.length c,.int .i64 lo,.bool ls,.int .i64 hi,.bool hs,.bool op] 28)).cell? ⟨w.heap.size,2,none⟩ = some (.slice a of.length c):=by simp [World.cell?_alloc_at]
  have hsz : w.heap.size < (w.alloc (.cells #[.int .u8 k,.slice a1 is.length c1,.slice a of.length c,.int .i64 lo,.bool ls,.int .i64 hi,.bool hs,.bool op] 28)).heap.size:=by simp
  have hj : True:=trivial
  have HBW:=HB0
  have hc : (0 : Int) < ((is.length : Nat) : Int) ∨ ¬ (0 : Int) < ((is.length : Nat) : Int):=by omega
  rcases hc with hc | hc
  all_goals
   go_wp2_with fail
   go_loopw [3,5] (fun q i wr => ∃ (j : Nat) (z : Int),j ≤ of.length ∧ i = .int .i64 j ∧ q = .int .i64 z ∧ Hid (z2e (z2v n) (oneX k is) (of.take j) = z) ∧ Below w.heap.size w wr ∧ w.heap.size < wr.heap.size ∧ wr.cell? ⟨w.heap.size,2,none⟩ = some (.slice a of.length c)) (fun _ i _ => of.length - (intOf i).toNat)
   case atStart => exact ⟨0,_,Nat.zero_le _,rfl,rfl,HO,HBW.out,hsz,hbox2⟩
   case round =>
    clear HBW HO hsz hj hbox2
    try clear hbox0
    try clear hbox1
    try clear hltI
    obtain ⟨j,z,hj,rfl,rfl,HT,hbw,hsz,hbox2⟩:=hrel
    have HBW:=Lib.hid hbw
    by_cases hlt : j < of.length
    ·have hltI : ((j : Nat) : Int) < ((of.length : Nat) : Int):=by omega
     obtain ⟨b,off,k',a1',l1',c1',a2',l2',c2',lo',ls',hi',hs',op',rfl,hbl,c0,d1,c2,c3,c4,c5,c6,c7,hr⟩:=(XRow.up HR.out hbw (Nat.le_refl _)).at j hlt
     have hz:=hbw.size
     have hbl' : b < wr.heap.size:=by omega
     have HC:=Lib.hid (HIH.out of[j] _ wr (HNX.out _ (List.getElem_mem hlt)) (hr.up (Below.refl _ _) hz))
     have HS:=Lib.hid (z3i (z2v n) (oneX k is) of j hlt)
     clear hr hbw
     generalize (z2v n) of[j] = y at HC HS
     have HT' : Hid (z2e (z2v n) (oneX k is) (of.take (j + 1)) = wrap64 (z + y)):=by rw [Hid,HS.out,HT.out]
     go_wp2_with fail
     refine HC.out.mono ?_
     rintro e w3 ⟨rfl,hb3⟩
     have HB3:=Lib.hid (HBW.out.trans (hb3.mono hz))
     have hsz3 : w.heap.size < w3.heap.size:=by have:=hb3.size; omega
     have gbox2:=(hb3.cell (p:=⟨w.heap.size,2,none⟩) hsz).trans hbox2
     clear hb3
     go_wp2_with fail
     go_roundw
     case rel => exact ⟨j + 1,_,by omega,by go_num,rfl,HT',HB3.out,hsz3,gbox2⟩
     case measure => simp [intOf]; omega
    ·have hje : j = of.length:=by omega
     subst hje
     have hltI : ¬ ((of.length : Nat) : Int) < ((of.length : Nat) : Int):=by omega
     have HALL : Hid (z2e (z2v n) (oneX k is) of = z):=by have h:=HT.out; rw [List.take_length] at h; exact h
     clear HT
     go_wp2_with fail
     all_goals go_ret
     all_goals exact ⟨z2q (by rw [HA.out,HALL.out]),HBW.out⟩
theorem many82_any (m n : Nat) : ManyC m n:=by
 induction n with
 | zero => intro t v w _ h; exact h.elim
 | succ n ih =>
  intro t v w hx h
  obtain ⟨k,is,of,lo,ls,hi,hs,op⟩:=t
  obtain ⟨a1,c1,a,c,rfl,hR1,hR⟩:=h
  dsimp only at hR hR1 ⊢
  by_cases hk : k = 1
  ·subst hk
   exact many82_one m n ih is of a1 a c1 c lo hi ls hs op w hR1 hR hx
  ·exact many82_other m n ih k hk is of a1 a c1 c lo hi ls hs op w hR1 hR hx
theorem z4z {m : Nat} : ∀ (n : Nat) (t : XT m n),allX z04 n t = true → allX z49 n t = !z29 n t
 | 0,t,_ => nomatch t
 | n + 1,t,h => by
  obtain ⟨k,is,of,i⟩:=t
  have h : (z04 k is of.length i && of.all (allX z04 n)) = true:=h
  show (z49 k is of.length i && of.all (allX z49 n)) = !((k == 6 && empI i) || of.any (z29 n))
  rw [Bool.and_eq_true,List.all_eq_true] at h
  obtain ⟨h1,h2⟩:=h
  have e1 : z49 k is of.length i = !(k == 6 && empI i):=by
   unfold z49
   by_cases hk : k = 6
   ·subst hk
    rw [rightX_six] at h1
    simp only [Bool.and_eq_true] at h1
    rw [ivR_two,h1.2]
    cases empI i <;> rfl
   ·have : (k == 6) = false:=by simpa using hk
    have hn : (k != 6) = true:=by simp [bne,this]
    rw [this,hn]; rfl
  have e2 : of.all (allX z49 n) = !of.any (z29 n):=by
   rw [List.not_any_eq_all_not]
   rw [Bool.eq_iff_iff,List.all_eq_true,List.all_eq_true]
   exact ⟨fun H x hx => by rw [← z4z n x (h2 x hx)]; exact H x hx,fun H x hx => by rw [z4z n x (h2 x hx)]; exact H x hx⟩
  rw [e1,e2,Bool.not_or]
theorem check39_any (names : List ByteArray) (nv : Value) (hs0 : ∀ s ∈ names,s.size ≤ 4611686018427387904) (m n : Nat) (t : XT m n) (v : Value) (w : World) (hx : nX n t ≤ 1000000) (hn : NRep w w.heap.size nv names) (h : XRep w w.heap.size m n t v) :
 Calls Tryz.prog 39 #[nv,v] w fun e w' => e = .returned (.int .i64 (z2o names n t)) ∧ Below w.heap.size w w':=by
 have HN:=Lib.hid hn
 have HXR:=Lib.hid h
 obtain ⟨k,a1,l1,c1,a,l,c,lo,ls,hi,hs,op,rfl⟩:=h.shape
 have hb0 : Below w.heap.size w (w.alloc (.cells #[.int .u8 k,.slice a1 l1 c1,.slice a l c,.int .i64 lo,.bool ls,.int .i64 hi,.bool hs,.bool op] 28)):=(Below.refl _ w).alloc (Nat.le_refl _) _
 have HB0:=Lib.hid hb0
 have HCELLS : Hid (∀ W,Below (w.heap.size + 1) (w.alloc (.cells #[.int .u8 k,.slice a1 l1 c1,.slice a l c,.int .i64 lo,.bool ls,.int .i64 hi,.bool hs,.bool op] 28)) W → W.heap[w.heap.size]? = some (.cells #[.int .u8 k,.slice a1 l1 c1,.slice a l c,.int .i64 lo,.bool ls,.int .i64 hi,.bool hs,.bool op] 28 (0,0))):=by
  intro W hW
  rw [hW.block _ (by omega)]
  exact heap_top rfl
 have HM:=Lib.hid (z31 names nv hs0 (w.alloc (.cells #[.int .u8 k,.slice a1 l1 c1,.slice a l c,.int .i64 lo,.bool ls,.int .i64 hi,.bool hs,.bool op] 28)) (hn.up hb0 hb0.size))
 have HR81 : Hid (∀ W,Below w.heap.size w W → Calls Tryz.prog 81 #[.agg #[.int .u8 k,.slice a1 l1 c1,.slice a l c,.int .i64 lo,.bool ls,.int .i64 hi,.bool hs,.bool op]] W fun e w' => e = .returned (.bool (allX z04 n t)) ∧ Below W.heap.size W w'):=fun W hW => right81_any m n t _ W (HXR.out.up hW hW.size)
 have HM82 : Hid (∀ W,Below w.heap.size w W → Calls Tryz.prog 82 #[.agg #[.int .u8 k,.slice a1 l1 c1,.slice a l c,.int .i64 lo,.bool ls,.int .i64 hi,.bool hs,.bool op]] W fun e w' => e = .returned (.int .i64 (z2v n t)) ∧ Below W.heap.size W w'):=fun W hW => many82_any m n t _ W hx (HXR.out.up hW hW.size)
 have HK83 : Hid (∀ W,Below w.heap.size w W → Calls Tryz.prog 83 #[nv,.agg #[.int .u8 k,.slice a1 l1 c1,.slice a l c,.int .i64 lo,.bool ls,.int .i64 hi,.bool hs,.bool op]] W fun e w' => e = .returned (.bool (allX (z28 names) n t)) ∧ Below W.heap.size W w'):=fun W hW => known83_any names nv w HN.out m n t _ W (HXR.out.up hW hW.size) hW
 have HE84 : Hid (∀ W,Below w.heap.size w W → Calls Tryz.prog 84 #[.agg #[.int .u8 k,.slice a1 l1 c1,.slice a l c,.int .i64 lo,.bool ls,.int .i64 hi,.bool hs,.bool op]] W fun e w' => e = .returned (.bool (z29 n t)) ∧ Below W.heap.size W w'):=fun W hW => empty84_any m n t _ W (HXR.out.up hW hW.size)
 have HR : Hid (z2o names n t = if decide (z15 names = 0) = false then 2 else if allX z04 n t = false then 8 else if 64 < z2v n t then 160 else if allX (z28 names) n t = false then 161 else if z29 n t = true then 162 else 0):=by
  rw [Hid]
  unfold z2o
  by_cases q1 : z15 names = 0
  ·cases q2 : allX z04 n t with
   | false => simp [q1]
   | true => simp [q1,z4z n t q2]
  ·simp [q1]
 clear hb0 h hn hx hs0
 generalize z2o names n t = res at HR ⊢
 generalize decide (z15 names = 0) = b1 at HM HR
 generalize allX z04 n t = b2 at HR81 HR
 generalize z2v n t = z3 at HM82 HR
 generalize allX (z28 names) n t = b4 at HK83 HR
 generalize z29 n t = b5 at HE84 HR
 cases b1 with
 | false =>
  have HR' : Hid (res = 2):=HR.out
  clear HR
  go_enter Tryz.func39,Tryz.ntmps39
  go_wp2_with fail
  refine HM.out.mono ?_
  rintro e w1 ⟨rfl,rfl⟩
  go_wp2_with fail
  all_goals go_ret
  all_goals exact ⟨z2q (by rw [HR'.out]),HB0.out⟩
 | true =>
  cases b2 with
  | false =>
   have HR' : Hid (res = 8):=HR.out
   have HC:=Lib.hid (HR81.out _ HB0.out)
   clear HR
   go_enter Tryz.func39,Tryz.ntmps39
   go_wp2_with fail
   refine HM.out.mono ?_
   rintro e w1 ⟨rfl,rfl⟩
   go_wp2_with fail
   refine HC.out.mono ?_
   rintro e w1 ⟨rfl,hb1⟩
   have HB1:=Lib.hid (HB0.out.trans (hb1.mono HB0.out.size))
   clear hb1
   go_wp2_with fail
   all_goals go_ret
   all_goals exact ⟨z2q (by rw [HR'.out]),HB1.out⟩
  | true =>
   have HC:=Lib.hid (HR81.out _ HB0.out)
   by_cases q3 : 64 < z3
   ·have HR' : Hid (res = 160):=by rw [Hid,HR.out,if_neg (by simp),if_neg (by simp),if_pos q3]
    clear HR
    go_enter Tryz.func39,Tryz.ntmps39
    go_wp2_with fail
    refine HM.out.mono ?_
    rintro e w1 ⟨rfl,rfl⟩
    go_wp2_with fail
    refine HC.out.mono ?_
    rintro e w1 ⟨rfl,hb1⟩
    have HB1:=Lib.hid (HB0.out.trans (hb1.mono HB0.out.size))
    have HT1 : Hid (Below (w.heap.size + 1) (w.alloc (.cells #[.int .u8 k,.slice a1 l1 c1,.slice a l c,.int .i64 lo,.bool ls,.int .i64 hi,.bool hs,.bool op] 28)) w1):=hb1.mono (by simp)
    have hk1:=HCELLS.out _ HT1.out
    obtain ⟨x10,x11,x12,x13,x14,x15,x16,x17⟩:=cc8 hk1
    have hsz1 : w.heap.size < w1.heap.size:=by have:=HT1.out.size; simp at this; omega
    clear hk1 hb1
    have HC2:=Lib.hid (HM82.out _ HB1.out)
    go_wp2_with fail
    refine HC2.out.mono ?_
    rintro e w2 ⟨rfl,hb2⟩
    have HB2:=Lib.hid (HB1.out.trans (hb2.mono HB1.out.size))
    clear hb2
    go_wp2_with fail
    all_goals go_ret
    all_goals exact ⟨z2q (by rw [HR'.out]),HB2.out⟩
   ·cases b4 with
    | false =>
     have HR' : Hid (res = 161):=by rw [Hid,HR.out,if_neg (by simp),if_neg (by simp),if_neg q3]; rfl
     clear HR
     go_enter Tryz.func39,Tryz.ntmps39
     go_wp2_with fail
     refine HM.out.mono ?_
     rintro e w1 ⟨rfl,rfl⟩
     go_wp2_with fail
     refine HC.out.mono ?_
     rintro e w1 ⟨rfl,hb1⟩
     have HB1:=Lib.hid (HB0.out.trans (hb1.mono HB0.out.size))
     have HT1 : Hid (Below (w.heap.size + 1) (w.alloc (.cells #[.int .u8 k,.slice a1 l1 c1,.slice a l c,.int .i64 lo,.bool ls,.int .i64 hi,.bool hs,.bool op] 28)) w1):=hb1.mono (by simp)
     have hk1:=HCELLS.out _ HT1.out
     obtain ⟨x10,x11,x12,x13,x14,x15,x16,x17⟩:=cc8 hk1
     have hsz1 : w.heap.size < w1.heap.size:=by have:=HT1.out.size; simp at this; omega
     clear hk1 hb1
     have HC2:=Lib.hid (HM82.out _ HB1.out)
     go_wp2_with fail
     refine HC2.out.mono ?_
     rintro e w2 ⟨rfl,hb2⟩
     have HB2:=Lib.hid (HB1.out.trans (hb2.mono HB1.out.size))
     have HT2 : Hid (Below (w.heap.size + 1) (w.alloc (.cells #[.int .u8 k,.slice a1 l1 c1,.slice a l c,.int .i64 lo,.bool ls,.int .i64 hi,.bool hs,.bool op] 28)) w2):=HT1.out.trans (hb2.mono (by have:=HT1.out.size; simp at this; omega))
     have hk2:=HCELLS.out _ HT2.out
     obtain ⟨x20,x21,x22,x23,x24,x25,x26,x27⟩:=cc8 hk2
     have hsz2 : w.heap.size < w2.heap.size:=by have:=HT2.out.size; simp at this; omega
     clear hk2 hb2
     clear x10 x11 x12 x13 x14 x15 x16 x17 hsz1
     have HC3:=Lib.hid (HK83.out _ HB2.out)
     go_wp2_with fail
     refine HC3.out.mono ?_
     rintro e w3 ⟨rfl,hb3⟩
     have HB3:=Lib.hid (HB2.out.trans (hb3.mono HB2.out.size))
     clear hb3
     go_wp2_with fail
     all_goals go_ret
     all_goals exact ⟨z2q (by rw [HR'.out]),HB3.out⟩
    | true =>
     have HR' : Hid (res = if b5 = true then 162 else 0):=by rw [Hid,HR.out,if_neg (by simp),if_neg (by simp),if_neg q3,if_neg (by simp)]
     clear HR
     go_enter Tryz.func39,Tryz.ntmps39
     go_wp2_with fail
     refine HM.out.mono ?_
     rintro e w1 ⟨rfl,rfl⟩
     go_wp2_with fail
     refine HC.out.mono ?_
     rintro e w1 ⟨rfl,hb1⟩
     have HB1:=Lib.hid (HB0.out.trans (hb1.mono HB0.out.size))
     have HT1 : Hid (Below (w.heap.size + 1) (w.alloc (.cells #[.int .u8 k,.slice a1 l1 c1,.slice a l c,.int .i64 lo,.bool ls,.int .i64 hi,.bool hs,.bool op] 28)) w1):=hb1.mono (by simp)
     have hk1:=HCELLS.out _ HT1.out
     obtain ⟨x10,x11,x12,x13,x14,x15,x16,x17⟩:=cc8 hk1
     have hsz1 : w.heap.size < w1.heap.size:=by have:=HT1.out.size; simp at this; omega
     clear hk1 hb1
     have HC2:=Lib.hid (HM82.out _ HB1.out)
     go_wp2_with fail
     refine HC2.out.mono ?_
     rintro e w2 ⟨rfl,hb2⟩
     have HB2:=Lib.hid (HB1.out.trans (hb2.mono HB1.out.size))
     have HT2 : Hid (Below (w.heap.size + 1) (w.alloc (.cells #[.int .u8 k,.slice a1 l1 c1,.slice a l c,.int .i64 lo,.bool ls,.int .i64 hi,.bool hs,.bool op] 28)) w2):=HT1.out.trans (hb2.mono (by have:=HT1.out.size; simp at this; omega))
     have hk2:=HCELLS.out _ HT2.out
     obtain ⟨x20,x21,x22,x23,x24,x25,x26,x27⟩:=cc8 hk2
     have hsz2 : w.heap.size < w2.heap.size:=by have:=HT2.out.size; simp at this; omega
     clear hk2 hb2
     clear x10 x11 x12 x13 x14 x15 x16 x17 hsz1
     have HC3:=Lib.hid (HK83.out _ HB2.out)
     go_wp2_with fail
     refine HC3.out.mono ?_
     rintro e w3 ⟨rfl,hb3⟩
     have HB3:=Lib.hid (HB2.out.trans (hb3.mono HB2.out.size))
     have HT3 : Hid (Below (w.heap.size + 1) (w.alloc (.cells #[.int .u8 k,.slice a1 l1 c1,.slice a l c,.int .i64 lo,.bool ls,.int .i64 hi,.bool hs,.bool op] 28)) w3):=HT2.out.trans (hb3.mono (by have:=HT2.out.size; simp at this; omega))
     have hk3:=HCELLS.out _ HT3.out
     obtain ⟨x30,x31,x32,x33,x34,x35,x36,x37⟩:=cc8 hk3
     have hsz3 : w.heap.size < w3.heap.size:=by have:=HT3.out.size; simp at this; omega
     clear hk3 hb3
     clear x20 x21 x22 x23 x24 x25 x26 x27 hsz2
     have HC4:=Lib.hid (HE84.out _ HB3.out)
     go_wp2_with fail
     refine HC4.out.mono ?_
     rintro e w4 ⟨rfl,hb4⟩
     have HB4:=Lib.hid (HB3.out.trans (hb4.mono HB3.out.size))
     clear hb4
     cases b5 with
     | true =>
      go_wp2_with fail
      all_goals go_ret
      all_goals exact ⟨z2q (by rw [HR'.out]; rfl),HB4.out⟩
     | false =>
      go_wp2_with fail
      all_goals go_ret
      all_goals exact ⟨z2q (by rw [HR'.out]; rfl),HB4.out⟩
end Go.Proofs.YtpgdplmndnopbaaGreatDoor
namespace Go.Proofs.YtpgdplmndnopbaaGreatDoor
open Go.RowKit
end Go.Proofs.YtpgdplmndnopbaaGreatDoor
namespace Go.Proofs.YtpgdplmndnopbaaGreatDoor
open Go.RowKit
end Go.Proofs.YtpgdplmndnopbaaGreatDoor
namespace Go.Proofs.YtpgdplmndnopbaaGreatDoor
open Go.RowKit
end Go.Proofs.YtpgdplmndnopbaaGreatDoor
namespace Go.Proofs.YtpgdplmndnopbaaGreatDoor
open Go.RowKit
/-! ### Printing hangs on the expression alone -/
theorem z4d {α β γ : Type} {f : α → γ} {g : β → γ} {δ : Type} {p : α → δ} {q : β → δ} : ∀ {l : List α} {r : List β},l.map f = r.map g → (∀ x ∈ l,∀ y ∈ r,f x = g y → p x = q y) → l.map p = r.map q
 | [],[],_,_ => rfl
 | [],_ :: _,h,_ => by simp at h
 | _ :: _,[],h,_ => by simp at h
 | x :: l,y :: r,h,H => by
  simp only [List.map_cons,List.cons.injEq] at h ⊢
  exact ⟨H x (by simp) y (by simp) h.1,z4d h.2 fun a ha b hb => H a (by simp [ha]) b (by simp [hb])⟩
end Go.Proofs.YtpgdplmndnopbaaGreatDoor
namespace Go.Proofs.YtpgdplmndnopbaaGreatDoor
open Go.RowKit
theorem z3v {α : Type} (p : α → Bool) (l : List α) : l.all p = (l.map p).all id:=by rw [List.all_map]; rfl
theorem z3y {α : Type} (f : α → Int) (a : Int) (l : List α) : z2e f a l = (l.map f).foldl (fun acc y => wrap64 (acc + y)) a:=by unfold z2e; rw [List.foldl_map]
theorem z6x (so : Int → ByteArray → Nat → Bool) : ∀ (n n' : Nat) (t : FT n) (u : FT n'),toF n t = toF n' u → allF so n t = allF so n' u
 | 0,_,t,_,_ => nomatch t
 | _ + 1,0,_,u,_ => nomatch u
 | n + 1,n' + 1,t,u,h => by
  obtain ⟨k,s,of⟩:=t
  obtain ⟨k',s',of'⟩:=u
  have h' : F.mk k s (of.map (toF n)) = F.mk k' s' (of'.map (toF n')):=h
  injection h' with h1 h2 h3
  subst h1 h2
  have H : of.map (allF so n) = of'.map (allF so n'):=z4d h3 fun x _ y _ e => z6x so n n' x y e
  have L : of.length = of'.length:=by simpa using congrArg List.length h3
  show (so k s of.length && of.all (allF so n)) = (so k s of'.length && of'.all (allF so n'))
  rw [z3v,z3v (allF so n'),H,L]
theorem cntF_same : ∀ (n n' : Nat) (t : FT n) (u : FT n'),toF n t = toF n' u → cntF n t = cntF n' u
 | 0,_,t,_,_ => nomatch t
 | _ + 1,0,_,u,_ => nomatch u
 | n + 1,n' + 1,t,u,h => by
  obtain ⟨k,s,of⟩:=t
  obtain ⟨k',s',of'⟩:=u
  have h' : F.mk k s (of.map (toF n)) = F.mk k' s' (of'.map (toF n')):=h
  injection h' with h1 h2 h3
  have H : of.map (cntF n) = of'.map (cntF n'):=z4d h3 fun x _ y _ e => cntF_same n n' x y e
  show z2e (cntF n) 1 of = z2e (cntF n') 1 of'
  rw [z3y,z3y,H]
theorem fmsC_same {n n' : Nat} {l : List (FT n)} {l' : List (FT n')} (h : l.map (toF n) = l'.map (toF n')) : fmsC n l = fmsC n' l':=by
 unfold fmsC
 rw [z3y,z3y,z4d h fun x _ y _ e => cntF_same n n' x y e]
theorem z5i {m m' : Nat} {so : Int → List (FT m) → Nat → Spn → Bool} {so' : Int → List (FT m') → Nat → Spn → Bool} (hso : ∀ k is is' l i,is.map (toF m) = is'.map (toF m') → so k is l i = so' k is' l i) :
 ∀ (n n' : Nat) (t : XT m n) (u : XT m' n'),toX n t = toX n' u → allX so n t = allX so' n' u
 | 0,_,t,_,_ => nomatch t
 | _ + 1,0,_,u,_ => nomatch u
 | n + 1,n' + 1,t,u,h => by
  obtain ⟨k,is,of,i⟩:=t
  obtain ⟨k',is',of',i'⟩:=u
  have h' : X.mk k (is.map (toF m)) (of.map (toX n)) i = X.mk k' (is'.map (toF m')) (of'.map (toX n')) i':=h
  injection h' with h1 h2 h3 h4
  subst h1 h4
  have H : of.map (allX so n) = of'.map (allX so' n'):=z4d h3 fun x _ y _ e => z5i hso n n' x y e
  have L : of.length = of'.length:=by simpa using congrArg List.length h3
  show (so k is of.length i && of.all (allX so n)) = (so' k is' of'.length i && of'.all (allX so' n'))
  rw [z3v,z3v (allX so' n'),H,L,hso k is is' _ i h2]
theorem cntX_same {m m' : Nat} {one : Int → List (FT m) → Int} {one' : Int → List (FT m') → Int} (ho : ∀ k is is',is.map (toF m) = is'.map (toF m') → one k is = one' k is') :
 ∀ (n n' : Nat) (t : XT m n) (u : XT m' n'),toX n t = toX n' u → cntX one n t = cntX one' n' u
 | 0,_,t,_,_ => nomatch t
 | _ + 1,0,_,u,_ => nomatch u
 | n + 1,n' + 1,t,u,h => by
  obtain ⟨k,is,of,i⟩:=t
  obtain ⟨k',is',of',i'⟩:=u
  have h' : X.mk k (is.map (toF m)) (of.map (toX n)) i = X.mk k' (is'.map (toF m')) (of'.map (toX n')) i':=h
  injection h' with h1 h2 h3 h4
  subst h1 h4
  have H : of.map (cntX one n) = of'.map (cntX one' n'):=z4d h3 fun x _ y _ e => cntX_same ho n n' x y e
  show z2e (cntX one n) (one k is) of = z2e (cntX one' n') (one' k is') of'
  rw [z3y,z3y,H,ho k is is' h2]
theorem rightX_same {m m' : Nat} (k : Int) (is : List (FT m)) (is' : List (FT m')) (l : Nat) (i : Spn) (h : is.map (toF m) = is'.map (toF m')) : z04 k is l i = z04 k is' l i:=by
 have L : is.length = is'.length:=by simpa using congrArg List.length h
 have H : is.map (allF z07 m) = is'.map (allF z07 m'):=z4d h fun x _ y _ e => z6x z07 m m' x y e
 unfold z04
 rw [z3v (allF z07 m),z3v (allF z07 m'),H,L]
theorem z3m {m n m' n' : Nat} (names : List ByteArray) {t : XT m n} {u : XT m' n'} (h : toX n t = toX n' u) : z2o names n t = z2o names n' u:=by
 unfold z2o
 have h1 : allX z04 n t = allX z04 n' u:=z5i (fun k is is' l i e => rightX_same k is is' l i e) n n' t u h
 have h2 : z2v n t = z2v n' u:=cntX_same (fun k is is' e => by unfold oneX; rw [fmsC_same e]) n n' t u h
 have h3 : allX (z28 names) n t = allX (z28 names) n' u:=z5i (fun k is is' l i e => by
  unfold z28
  rw [z3v (allF (z1n names) m),z3v (allF (z1n names) m'),z4d e fun x _ y _ e => z6x _ m m' x y e]) n n' t u h
 have h4 : allX z49 n t = allX z49 n' u:=z5i (so:=z49) (so':=z49) (fun k is is' l i _ => rfl) n n' t u h
 rw [h1,h2,h3,h4]
end Go.Proofs.YtpgdplmndnopbaaGreatDoor
namespace Go.Proofs.YtpgdplmndnopbaaGreatDoor
open Go.RowKit Go.Shelf
attribute [local go_sem ↓] Go.wp_at_zero Go.wp_at_succ
theorem z3w (l : List UInt8) (c : UInt8) (h : ∀ b ∈ l,b ≠ c) : Lib.indexByte l c = -1:=by
 induction l with
 | nil => rfl
 | cons b r ih =>
  have h1 : b ≠ c:=h b (by simp)
  have h2:=ih (fun x hx => h x (by simp [hx]))
  simp [Lib.indexByte,h1,h2]
theorem irune_bad (S : ByteArray) (hS : S.size = 15) (hall : ∀ b ∈ S.data.toList,b.toNat < 128) (w : World) :
 Calls Tryz.prog 114 #[.string S,.int .i32 65533] w fun e w' => e = .returned (.int .i64 (-1)) ∧ Below w.heap.size w w':=by
 have HA:=Lib.hid hall
 clear hall
 go_enter Tryz.func114,Tryz.ntmps114
 go_wp2_with fail
 go_loopw [] (fun wr => ∃ pos,pos ≤ 15 ∧ wr.heap[w.heap.size]? = some (.stringIter S pos) ∧ Below w.heap.size w wr) (fun wr => 15 - wr.iterPos w.heap.size)
 case atStart => exact ⟨0,by omega,World.iter_heap w S 0,(Below.refl _ w).alloc (Nat.le_refl _) _⟩
 case round =>
  obtain ⟨pos,hp,hit,hbw⟩:=hrel
  by_cases hlt : pos < 15
  ·have hps : pos < S.size:=by omega
   have h128 : (S[pos]'hps).toNat < 128:=HA.out _ (by rw [z2k S pos hps]; exact List.getElem_mem _)
   have hnx : ∀ ty,(Instr.next (.pointer (some ⟨w.heap.size,0,none⟩)) true ty).run Tryz.prog wr = _:=fun ty => Lib.run_next_ascii_at wr w.heap.size S pos ty hit hps h128
   have hit2:=Lib.iterAt_heap wr w.heap.size S pos (pos + 1) hit
   have hbw2:=Lib.below_iterAt hbw (k:=w.heap.size) (by omega) S (pos + 1)
   generalize (S[pos]'hps).toNat = c at h128 hnx
   have hc : ((c : Int) == 65533) = false:=by simp; omega
   go_wp2_with fail
   refine ⟨⟨pos + 1,by omega,hit2,hbw2⟩,?_⟩
   simp only [World.iterPos,hit2,hit]
   omega
  ·have hnx : ∀ ty,(Instr.next (.pointer (some ⟨w.heap.size,0,none⟩)) true ty).run Tryz.prog wr = _:=fun ty => Lib.run_next_end_at wr w.heap.size S pos ty hit (by omega)
   go_wp2_with fail
   go_ret
   exact ⟨rfl,hbw⟩
theorem irune_none (S : ByteArray) (r : Int) (hv : Lib.validRune r = false) (h0 : 128 ≤ r) (h1 : r ≠ 65533) (w : World) :
 Calls Tryz.prog 114 #[.string S,.int .i32 r] w fun e w' => e = .returned (.int .i64 (-1)) ∧ w' = w:=by
 have HV:=Lib.hid hv
 have hb : (r == 65533) = false:=by simpa using h1
 have hb2 : decide (r < 128) = false:=by simp; omega
 clear hv h1
 go_enter Tryz.func114,Tryz.ntmps114
 go_wp2_with (go_at_call 153; refine (Tryz.utf8_ValidRune r _).mono ?_; rintro e w' ⟨rfl,rfl⟩; rw [HV.out])
 go_ret
 exact ⟨rfl,rfl⟩
theorem irune_far (S : ByteArray) (hS : S.size = 15) (hall : ∀ b ∈ S.data.toList,b.toNat < 128) (r : Int) (hv : Lib.validRune r = true) (h0 : 128 ≤ r) (h1 : r ≠ 65533) (w : World) :
 Calls Tryz.prog 114 #[.string S,.int .i32 r] w fun e w' => e = .returned (.int .i64 (-1)) ∧ Below w.heap.size w w':=by
 have HV:=Lib.hid hv
 have HA:=Lib.hid hall
 have hval : Utf8.valid r = true:=by
  simp only [Lib.validRune,decide_eq_true_eq] at hv
  simp only [Utf8.valid,Bool.or_eq_true,Bool.and_eq_true,decide_eq_true_eq]
  omega
 obtain ⟨e2,e4,hE⟩:=encode_facts r hval h0
 have hb : (r == 65533) = false:=by simpa using h1
 have hb2 : decide (r < 128) = false:=by simp; omega
 have hconv : ∀ W,(convert 21 9 (.int .i32 r)).run Tryz.prog W = .ok (.string (Utf8.encode r)) W:=fun W => run_convert_int_string W 21 9 .i32 r (by rw [Tryz.underlying21]; rfl) Tryz.underlying9
 clear hv h1 hall hval
 have hsz : (Utf8.encode r).size = 2 ∨ (Utf8.encode r).size = 3 ∨ (Utf8.encode r).size = 4:=by omega
 clear e2 e4
 rcases hsz with hsz | hsz | hsz
 ·have hl:=hE (by omega)
  have hlast : (Utf8.encode r).size - 1 = 1:=by omega
  simp only [hlast] at hl
  have hc1 : ∀ W,(Instr.index 9 (.string (Utf8.encode r)) (.int .i64 1)).run Tryz.prog W = .ok (.int .u8 ((Utf8.encode r)[1]'(by omega)).toNat) W:=fun W => by
   rw [run_index_string W 9 (Utf8.encode r) .i64 _ Tryz.underlying9,dif_pos (by omega)]
   rfl
  have hs1 : ∀ W,(Instr.index 9 (.string S) (.int .i64 1)).run Tryz.prog W = .ok (.int .u8 (S[1]'(by omega)).toNat) W:=fun W => by
   rw [run_index_string W 9 S .i64 _ Tryz.underlying9,dif_pos (by omega)]
   rfl
  have h128s : (S[1]'(by omega)).toNat < 128:=HA.out _ (by rw [z2k S 1 (by omega)]; exact List.getElem_mem _)
  generalize (Utf8.encode r)[1]'(by omega) = c at hl hc1
  generalize S[1]'(by omega) = d at h128s hs1
  have hne : ((d.toNat : Int) == (c.toNat : Int)) = false:=by simp; omega
  have hne2 : ((d.toNat : Int) != (c.toNat : Int)) = true:=by simp; omega
  have hib : Lib.indexByte (S.extract 2 15).data.toList c = -1:=by
   refine z3w _ _ (fun b hb => ?_)
   rw [Lib.extract_data] at hb
   have:=HA.out b (List.mem_of_mem_drop (List.mem_of_mem_take hb))
   intro e; subst e; omega
  have HIB : Hid (∀ W,Calls Tryz.prog 152 #[.string (S.extract 2 15),.int .u8 c.toNat] W fun e w' => e = .returned (.int .i64 (-1)) ∧ w' = W):=fun W => by
   refine (Tryz.strings_IndexByte _ _ W).mono ?_
   rintro e w' ⟨rfl,rfl⟩
   have : ((c.toNat : Int)).toNat.toUInt8 = c:=by simp
   rw [this,hib]; exact ⟨rfl,rfl⟩
  have hsl : ∀ W,(Instr.slice 9 (.string S) (some (.int .i64 2)) none none).run Tryz.prog W = .ok (.string (S.extract 2 15)) W:=fun W => by
   rw [run_slice_string_from_if W 9 S .i64 2 Tryz.underlying9,if_pos (by omega),hS]
   rfl
  clear hib hl hE
  generalize Utf8.encode r = R at hsz hc1 hconv
  generalize S.extract 2 15 = T at hsl HIB
  have hwn : IntKind.i64.wrap 2 = 2:=by decide
  go_enter Tryz.func114,Tryz.ntmps114
  go_wp2_with (go_at_call 153; refine (Tryz.utf8_ValidRune r _).mono ?_; rintro e w' ⟨rfl,rfl⟩; rw [HV.out])
  go_step3
  go_wp2_with fail
  go_loop [9,10] (fun vi vf => vi = .int .i64 1 ∧ vf = .int .i64 0) (fun _ _ => 0)
  case atStart => exact ⟨rfl,rfl⟩
  case round =>
   obtain ⟨rfl,rfl⟩:=hrel
   go_wp2_with fail
   go_step3
   go_wp2_with fail
   go_quiet (fail)
   have HW2 : Hid (Below w'.heap.size w' (w'.drewN nq)):=z2p (Below.refl _ _) _
   generalize w'.drewN nq = W2 at HW2 ⊢
   go_wp2_with fail
   go_quiet (first | (go_at_call 152; refine Calls.quiet_of_same (HIB.out _)))
   go_wp2_with fail
   rw [Exit.noGoto_ret]
   go_wp2_with fail
   rw [Exit.noGoto_ret]
   try go_wp2_with fail
   go_ret
   exact ⟨rfl,z2p HW2.out _⟩
 ·have hl:=hE (by omega)
  have hlast : (Utf8.encode r).size - 1 = 2:=by omega
  simp only [hlast] at hl
  have hc1 : ∀ W,(Instr.index 9 (.string (Utf8.encode r)) (.int .i64 2)).run Tryz.prog W = .ok (.int .u8 ((Utf8.encode r)[2]'(by omega)).toNat) W:=fun W => by
   rw [run_index_string W 9 (Utf8.encode r) .i64 _ Tryz.underlying9,dif_pos (by omega)]
   rfl
  have hs1 : ∀ W,(Instr.index 9 (.string S) (.int .i64 2)).run Tryz.prog W = .ok (.int .u8 (S[2]'(by omega)).toNat) W:=fun W => by
   rw [run_index_string W 9 S .i64 _ Tryz.underlying9,dif_pos (by omega)]
   rfl
  have h128s : (S[2]'(by omega)).toNat < 128:=HA.out _ (by rw [z2k S 2 (by omega)]; exact List.getElem_mem _)
  generalize (Utf8.encode r)[2]'(by omega) = c at hl hc1
  generalize S[2]'(by omega) = d at h128s hs1
  have hne : ((d.toNat : Int) == (c.toNat : Int)) = false:=by simp; omega
  have hne2 : ((d.toNat : Int) != (c.toNat : Int)) = true:=by simp; omega
  have hib : Lib.indexByte (S.extract 3 15).data.toList c = -1:=by
   refine z3w _ _ (fun b hb => ?_)
   rw [Lib.extract_data] at hb
   have:=HA.out b (List.mem_of_mem_drop (List.mem_of_mem_take hb))
   intro e; subst e; omega
  have HIB : Hid (∀ W,Calls Tryz.prog 152 #[.string (S.extract 3 15),.int .u8 c.toNat] W fun e w' => e = .returned (.int .i64 (-1)) ∧ w' = W):=fun W => by
   refine (Tryz.strings_IndexByte _ _ W).mono ?_
   rintro e w' ⟨rfl,rfl⟩
   have : ((c.toNat : Int)).toNat.toUInt8 = c:=by simp
   rw [this,hib]; exact ⟨rfl,rfl⟩
  have hsl : ∀ W,(Instr.slice 9 (.string S) (some (.int .i64 3)) none none).run Tryz.prog W = .ok (.string (S.extract 3 15)) W:=fun W => by
   rw [run_slice_string_from_if W 9 S .i64 3 Tryz.underlying9,if_pos (by omega),hS]
   rfl
  clear hib hl hE
  generalize Utf8.encode r = R at hsz hc1 hconv
  generalize S.extract 3 15 = T at hsl HIB
  have hwn : IntKind.i64.wrap 3 = 3:=by decide
  go_enter Tryz.func114,Tryz.ntmps114
  go_wp2_with (go_at_call 153; refine (Tryz.utf8_ValidRune r _).mono ?_; rintro e w' ⟨rfl,rfl⟩; rw [HV.out])
  go_step3
  go_wp2_with fail
  go_loop [9,10] (fun vi vf => vi = .int .i64 2 ∧ vf = .int .i64 0) (fun _ _ => 0)
  case atStart => exact ⟨rfl,rfl⟩
  case round =>
   obtain ⟨rfl,rfl⟩:=hrel
   go_wp2_with fail
   go_step3
   go_wp2_with fail
   go_quiet (fail)
   have HW2 : Hid (Below w'.heap.size w' (w'.drewN nq)):=z2p (Below.refl _ _) _
   generalize w'.drewN nq = W2 at HW2 ⊢
   go_wp2_with fail
   go_quiet (first | (go_at_call 152; refine Calls.quiet_of_same (HIB.out _)))
   go_wp2_with fail
   rw [Exit.noGoto_ret]
   go_wp2_with fail
   rw [Exit.noGoto_ret]
   try go_wp2_with fail
   go_ret
   exact ⟨rfl,z2p HW2.out _⟩
 ·have hl:=hE (by omega)
  have hlast : (Utf8.encode r).size - 1 = 3:=by omega
  simp only [hlast] at hl
  have hc1 : ∀ W,(Instr.index 9 (.string (Utf8.encode r)) (.int .i64 3)).run Tryz.prog W = .ok (.int .u8 ((Utf8.encode r)[3]'(by omega)).toNat) W:=fun W => by
   rw [run_index_string W 9 (Utf8.encode r) .i64 _ Tryz.underlying9,dif_pos (by omega)]
   rfl
  have hs1 : ∀ W,(Instr.index 9 (.string S) (.int .i64 3)).run Tryz.prog W = .ok (.int .u8 (S[3]'(by omega)).toNat) W:=fun W => by
   rw [run_index_string W 9 S .i64 _ Tryz.underlying9,dif_pos (by omega)]
   rfl
  have h128s : (S[3]'(by omega)).toNat < 128:=HA.out _ (by rw [z2k S 3 (by omega)]; exact List.getElem_mem _)
  generalize (Utf8.encode r)[3]'(by omega) = c at hl hc1
  generalize S[3]'(by omega) = d at h128s hs1
  have hne : ((d.toNat : Int) == (c.toNat : Int)) = false:=by simp; omega
  have hne2 : ((d.toNat : Int) != (c.toNat : Int)) = true:=by simp; omega
  have hib : Lib.indexByte (S.extract 4 15).data.toList c = -1:=by
   refine z3w _ _ (fun b hb => ?_)
   rw [Lib.extract_data] at hb
   have:=HA.out b (List.mem_of_mem_drop (List.mem_of_mem_take hb))
   intro e; subst e; omega
  have HIB : Hid (∀ W,Calls Tryz.prog 152 #[.string (S.extract 4 15),.int .u8 c.toNat] W fun e w' => e = .returned (.int .i64 (-1)) ∧ w' = W):=fun W => by
   refine (Tryz.strings_IndexByte _ _ W).mono ?_
   rintro e w' ⟨rfl,rfl⟩
   have : ((c.toNat : Int)).toNat.toUInt8 = c:=by simp
   rw [this,hib]; exact ⟨rfl,rfl⟩
  have hsl : ∀ W,(Instr.slice 9 (.string S) (some (.int .i64 4)) none none).run Tryz.prog W = .ok (.string (S.extract 4 15)) W:=fun W => by
   rw [run_slice_string_from_if W 9 S .i64 4 Tryz.underlying9,if_pos (by omega),hS]
   rfl
  clear hib hl hE
  generalize Utf8.encode r = R at hsz hc1 hconv
  generalize S.extract 4 15 = T at hsl HIB
  have hwn : IntKind.i64.wrap 4 = 4:=by decide
  go_enter Tryz.func114,Tryz.ntmps114
  go_wp2_with (go_at_call 153; refine (Tryz.utf8_ValidRune r _).mono ?_; rintro e w' ⟨rfl,rfl⟩; rw [HV.out])
  go_step3
  go_wp2_with fail
  go_loop [9,10] (fun vi vf => vi = .int .i64 3 ∧ vf = .int .i64 0) (fun _ _ => 0)
  case atStart => exact ⟨rfl,rfl⟩
  case round =>
   obtain ⟨rfl,rfl⟩:=hrel
   go_wp2_with fail
   go_step3
   go_wp2_with fail
   go_quiet (fail)
   have HW2 : Hid (Below w'.heap.size w' (w'.drewN nq)):=z2p (Below.refl _ _) _
   generalize w'.drewN nq = W2 at HW2 ⊢
   go_wp2_with fail
   go_quiet (first | (go_at_call 152; refine Calls.quiet_of_same (HIB.out _)))
   go_wp2_with fail
   rw [Exit.noGoto_ret]
   go_wp2_with fail
   rw [Exit.noGoto_ret]
   try go_wp2_with fail
   go_ret
   exact ⟨rfl,z2p HW2.out _⟩
def signsL : List UInt8:=[124,38,59,43,60,62,95,91,93,40,41,44,33,123,125]
theorem signs_all : ∀ b ∈ signsL,b.toNat < 128:=by decide
theorem signs_has_fin : ∀ i : Fin 256,decide (0 ≤ Lib.indexByte signsL (UInt8.ofNat i.val)) = z19 (UInt8.ofNat i.val):=by decide +kernel
theorem contains24_any (r : Int) (h0 : 0 ≤ r) (h1 : r ≤ 1114111) (w : World) :
 Calls Tryz.prog 62 #[.string ⟨#[124,38,59,43,60,62,95,91,93,40,41,44,33,123,125]⟩,.int .i32 r] w fun e w' =>
  e = .returned (.bool (decide (r < 128) && z19 r.toNat.toUInt8)) ∧ Below w.heap.size w w':=by
 by_cases h : r < 128
 ·refine (Tryz.strings_ContainsRune_ascii _ r w h0 h).mono ?_
  rintro e w' ⟨rfl,rfl⟩
  refine ⟨?_,Below.refl _ _⟩
  have:=signs_has_fin ⟨r.toNat,by omega⟩
  rw [decide_eq_true h,Bool.true_and]
  exact congrArg (fun b => Ending.returned (Value.bool b)) this
 ·have hd : decide (r < 128) = false:=by simpa using h
  rw [hd,Bool.false_and]
  have HI : Hid (Calls Tryz.prog 114 #[.string ⟨#[124,38,59,43,60,62,95,91,93,40,41,44,33,123,125]⟩,.int .i32 r] w fun e w' => e = .returned (.int .i64 (-1)) ∧ Below w.heap.size w w'):=by
   by_cases hb : r = 65533
   ·subst hb; exact irune_bad _ rfl signs_all w
   ·cases hv : Lib.validRune r with
    | false =>
     refine (irune_none _ r hv (by omega) hb w).mono ?_
     rintro e w' ⟨rfl,rfl⟩
     exact ⟨rfl,Below.refl _ _⟩
    | true => exact irune_far _ rfl signs_all r hv (by omega) hb w
  generalize (⟨#[124,38,59,43,60,62,95,91,93,40,41,44,33,123,125]⟩ : ByteArray) = S at HI
  clear hd h h0 h1
  go_enter Tryz.func62,Tryz.ntmps62
  go_wp2_with fail
  refine HI.out.mono ?_
  rintro e w1 ⟨rfl,hb⟩
  go_wp2_with fail
  go_ret
  exact ⟨rfl,hb⟩
end Go.Proofs.YtpgdplmndnopbaaGreatDoor
