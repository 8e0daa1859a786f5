/- The book of layer 16: nodes, and what is wrong with an expression. (Printed by gen_bkg.py.) -/
import Derived.Test.YtockinpjfhhkoaaGreatDoorZ47
import Derived.Test.YtockinpjfhhkoaaGreatDoorZ02
import Derived.Test.YtockinpjfhhkoaaGreatDoorZ01
set_option maxRecDepth 100000
set_option maxHeartbeats 16000000
open Go.Lib renaming hid → Jh
namespace Go.Proofs.YtockinpjfhhkoaaGreatDoor
open Go.RowKit
theorem heap_top {w : World} {o : Obj} {k : Nat} (h : k = w.heap.size) : (w.alloc o).heap[k]? = some o:=by subst h; exact Array.getElem?_push_size
theorem szL_sum {α : Type} (f : α → Int → Int) (g : α → Nat) (most : Int) (hm : most ≤ 1048576) : ∀ (l : List α) (n : Int),(∀ x ∈ l,∀ k : Int,k ≤ 1048576 → (g x : Int) ≤ k → f x k = g x) → 0 ≤ n → n + (l.map g).sum ≤ most →
 szL f most l n = n + (l.map g).sum
 | [],n,_,_,_ => by simp [szL]
 | x :: r,n,H,h0,h1 => by
  simp only [List.map_cons,List.sum_cons] at h1 ⊢
  push_cast at h1 ⊢
  rw [szL,if_pos (by omega)]
  have hw : wrap64 (most - n) = most - n:=by unfold wrap64; omega
  have hf:=H x (by simp) (most - n) (by omega) (by omega)
  rw [hw,hf]
  have hw2 : wrap64 (n + (g x : Int)) = n + g x:=by unfold wrap64; omega
  rw [hw2,szL_sum f g most hm r (n + g x) (fun y hy => H y (by simp [hy])) (by omega) (by omega)]
  omega
theorem nodesF_n : ∀ (n : Nat) (t : FT n) (most : Int),most ≤ 1048576 → (nF n t : Int) ≤ most → z2j n t most = nF n t
 | 0,t,_,_,_ => nomatch t
 | n + 1,t,most,hm,h => by
  rw [nF] at h ⊢
  rw [z2j,szL_sum (z2j n) (nF n) most hm t.2.2 1 (fun x _ k hk hx => nodesF_n n x k hk hx) (by omega) (by push_cast at h ⊢; omega)]
  push_cast; rfl
theorem nodesF_cnt (n : Nat) (t : FT n) (h : nF n t ≤ 1000000) : z2j n t 1048576 = cntF n t:=by
 rw [nodesF_n n t _ (by omega) (by omega),cntF_n n t h]
def
 ManyC (m n : Nat) : Prop:=∀ (t : XT m n) (v : Value) (w : World),nX n t ≤ 1000000 → XRep w w.heap.size m n t v →
 Calls Tryz.prog 105 #[v] w fun e w' => e = .returned (.int .i64 (z1m n t)) ∧ Below w.heap.size w w'
theorem many82_one (m n : Nat) (ih : ManyC m n) (is : List (FT m)) (of : List (XT m n)) (a1 a : Option Addr) (c1 c : Nat) (lo hi : Int) (ls hs op : Bool) (w : World) (hR1 : FRow w w.heap.size m a1 is) (hR : XRow w w.heap.size m n a of)
 (hx : nX (n + 1) ((1,is,of,⟨lo,ls,hi,hs,op⟩) : XT m (n + 1)) ≤ 1000000) :
 Calls Tryz.prog 105 #[.agg #[.int .u8 1,.slice a1 is.length c1,.slice a of.length c,.int .i64 lo,.bool ls,.int .i64 hi,.bool hs,.bool op]] w fun e w' => e = .returned (.int .i64 (z1m (n + 1) ((1,is,of,⟨lo,ls,hi,hs,op⟩) : XT m (n + 1)))) ∧ Below w.heap.size w w':=by
 have hm:=hR.1
 have hm1:=hR1.1
 have HR:=Jh hR
 have HR1:=Jh hR1
 have HIH:=Jh ih
 have hb0 : Below w.heap.size w (w.alloc (.cells #[.int .u8 1,.slice a1 is.length c1,.slice a of.length c,.int .i64 lo,.bool ls,.int .i64 hi,.bool hs,.bool op] 47)):=(Below.refl _ w).alloc (Nat.le_refl _) _
 have HB0:=Jh hb0
 have HA : Hid (z1m (n + 1) ((1,is,of,⟨lo,ls,hi,hs,op⟩) : XT m (n + 1)) = z1h (z1m n) (oneX 1 is) of):=rfl
 have HNX : Hid (∀ x ∈ of,nX n x ≤ 1000000):=by
  intro x h
  have:=z4k (nX n) of x h
  have hx : (if (1 : Int) = 1 then (is.map (nF m)).sum else 1) + (of.map (nX n)).sum ≤ 1000000:=hx
  omega
 have HNF : Hid (∀ x ∈ is,z2j m x 1048576 = cntF m x):=by
  intro x h
  have:=z4k (nF m) is x h
  have hx : (is.map (nF m)).sum + (of.map (nX n)).sum ≤ 1000000:=hx
  exact nodesF_cnt m x (by omega)
 have HN130 : Hid (∀ (x : FT m) (v : Value) (w : World),x ∈ is → FRep w w.heap.size m x v → Calls Tryz.prog 163 #[v,.int .i64 1048576] w fun e w' => e = .returned (.int .i64 (cntF m x)) ∧ Below w.heap.size w w'):=by
  intro x v w hx h
  rw [← HNF.out x hx]
  exact nodes130_any m x v 1048576 w h
 clear hR hR1 ih hb0 hx HNF
 go_enter Tryz.func105,Tryz.ntmps105
 go_wp2_with fail
 go_loopw [3,4] (fun q i wr => ∃ (j : Nat) (z : Int),j ≤ is.length ∧ i = .int .i64 j ∧ q = .int .i64 z ∧ Hid (z1h (cntF m) 0 (is.take j) = z) ∧ Below w.heap.size w wr ∧ w.heap.size < wr.heap.size ∧ wr.cell? ⟨w.heap.size,0,none⟩ = some (.int .u8 1) ∧ wr.cell? ⟨w.heap.size,1,none⟩ = some (.slice a1 is.length c1) ∧ wr.cell? ⟨w.heap.size,2,none⟩ = some (.slice a of.length c)) (fun _ i _ => is.length - (intOf i).toNat)
 case atStart => exact ⟨0,_,Nat.zero_le _,rfl,rfl,rfl,HB0.out,by simp,by simp [World.cell?_alloc_at],by simp [World.cell?_alloc_at],by simp [World.cell?_alloc_at]⟩
 case round =>
  obtain ⟨j,z,hj,rfl,rfl,HT,hbw,hsz,hbox0,hbox1,hbox2⟩:=hrel
  have HBW:=Jh hbw
  by_cases hlt : j < is.length
  ·have hltI : ((j : Nat) : Int) < ((is.length : Nat) : Int):=by omega
   obtain ⟨b,off,k',s',sa,sl,sc,rfl,hbl,c0,c1,c2,hr⟩:=(FRow.up HR1.out hbw (Nat.le_refl _)).at j hlt
   have hz:=hbw.size
   have hbl' : b < wr.heap.size:=by omega
   have HC:=Jh (HN130.out is[j] _ wr (List.getElem_mem hlt) (hr.up (Below.refl _ _) hz))
   have HS:=Jh (z2d (cntF m) 0 is j hlt)
   clear hr hbw
   generalize (cntF m) is[j] = y at HC HS
   have HT' : Hid (z1h (cntF m) 0 (is.take (j + 1)) = wrap64 (z + y)):=by rw [Hid,HS.out,HT.out]
   go_wp2_with fail
   refine HC.out.mono ?_
   rintro e w3 ⟨rfl,hb3⟩
   have HB3:=Jh (HBW.out.trans (hb3.mono hz))
   have hsz3 : w.heap.size < w3.heap.size:=by have:=hb3.size; omega
   have gbox0:=(hb3.cell (p:=⟨w.heap.size,0,none⟩) hsz).trans hbox0
   have gbox1:=(hb3.cell (p:=⟨w.heap.size,1,none⟩) hsz).trans hbox1
   have gbox2:=(hb3.cell (p:=⟨w.heap.size,2,none⟩) hsz).trans hbox2
   clear hb3
   go_wp2_with fail
   go_roundw
   case rel => exact ⟨j + 1,_,by omega,by go_num,rfl,HT',HB3.out,hsz3,gbox0,gbox1,gbox2⟩
   case measure => simp [intOf]; omega
  ·have hje : j = is.length:=by omega
   subst hje
   have hltI : ¬ ((is.length : Nat) : Int) < ((is.length : Nat) : Int):=by omega
   have HALL : Hid (z1h (cntF m) 0 is = z):=by have h:=HT.out; rw [List.take_length] at h; exact h
   clear HT
   have HO : Hid (z1h (z1m n) (oneX 1 is) (of.take 0) = z):=HALL.out
   clear HALL hbw
   go_wp2_with fail
   go_loopw [3,5] (fun q i wr => ∃ (j : Nat) (z : Int),j ≤ of.length ∧ i = .int .i64 j ∧ q = .int .i64 z ∧ Hid (z1h (z1m n) (oneX 1 is) (of.take j) = z) ∧ Below w.heap.size w wr ∧ w.heap.size < wr.heap.size ∧ wr.cell? ⟨w.heap.size,2,none⟩ = some (.slice a of.length c)) (fun _ i _ => of.length - (intOf i).toNat)
   case atStart => exact ⟨0,_,Nat.zero_le _,rfl,rfl,HO,HBW.out,hsz,hbox2⟩
   case round =>
    clear HBW HO hsz hj hbox2
    try clear hbox0
    try clear hbox1
    try clear hltI
    obtain ⟨j,z,hj,rfl,rfl,HT,hbw,hsz,hbox2⟩:=hrel
    have HBW:=Jh hbw
    by_cases hlt : j < of.length
    ·have hltI : ((j : Nat) : Int) < ((of.length : Nat) : Int):=by omega
     obtain ⟨b,off,k',a1',l1',c1',a2',l2',c2',lo',ls',hi',hs',op',rfl,hbl,c0,d1,c2,c3,c4,c5,c6,c7,hr⟩:=(XRow.up HR.out hbw (Nat.le_refl _)).at j hlt
     have hz:=hbw.size
     have hbl' : b < wr.heap.size:=by omega
     have HC:=Jh (HIH.out of[j] _ wr (HNX.out _ (List.getElem_mem hlt)) (hr.up (Below.refl _ _) hz))
     have HS:=Jh (z2d (z1m n) (oneX 1 is) of j hlt)
     clear hr hbw
     generalize (z1m n) of[j] = y at HC HS
     have HT' : Hid (z1h (z1m n) (oneX 1 is) (of.take (j + 1)) = wrap64 (z + y)):=by rw [Hid,HS.out,HT.out]
     go_wp2_with fail
     refine HC.out.mono ?_
     rintro e w3 ⟨rfl,hb3⟩
     have HB3:=Jh (HBW.out.trans (hb3.mono hz))
     have hsz3 : w.heap.size < w3.heap.size:=by have:=hb3.size; omega
     have gbox2:=(hb3.cell (p:=⟨w.heap.size,2,none⟩) hsz).trans hbox2
     clear hb3
     go_wp2_with fail
     go_roundw
     case rel => exact ⟨j + 1,_,by omega,by go_num,rfl,HT',HB3.out,hsz3,gbox2⟩
     case measure => simp [intOf]; omega
    ·have hje : j = of.length:=by omega
     subst hje
     have hltI : ¬ ((of.length : Nat) : Int) < ((of.length : Nat) : Int):=by omega
     have HALL : Hid (z1h (z1m n) (oneX 1 is) of = z):=by have h:=HT.out; rw [List.take_length] at h; exact h
     clear HT
     go_wp2_with fail
     all_goals go_ret
     all_goals exact ⟨z0u (by rw [HA.out,HALL.out]),HBW.out⟩
theorem many82_other (m n : Nat) (ih : ManyC m n) (k : Int) (hk : k ≠ 1) (is : List (FT m)) (of : List (XT m n)) (a1 a : Option Addr) (c1 c : Nat) (lo hi : Int) (ls hs op : Bool) (w : World) (hR1 : FRow w w.heap.size m a1 is) (hR : XRow w w.heap.size m n a of)
 (hx : nX (n + 1) ((k,is,of,⟨lo,ls,hi,hs,op⟩) : XT m (n + 1)) ≤ 1000000) :
 Calls Tryz.prog 105 #[.agg #[.int .u8 k,.slice a1 is.length c1,.slice a of.length c,.int .i64 lo,.bool ls,.int .i64 hi,.bool hs,.bool op]] w fun e w' => e = .returned (.int .i64 (z1m (n + 1) ((k,is,of,⟨lo,ls,hi,hs,op⟩) : XT m (n + 1)))) ∧ Below w.heap.size w w':=by
 have hm:=hR.1
 have hm1:=hR1.1
 have HR:=Jh hR
 have HR1:=Jh hR1
 have HIH:=Jh ih
 have hb0 : Below w.heap.size w (w.alloc (.cells #[.int .u8 k,.slice a1 is.length c1,.slice a of.length c,.int .i64 lo,.bool ls,.int .i64 hi,.bool hs,.bool op] 47)):=(Below.refl _ w).alloc (Nat.le_refl _) _
 have HB0:=Jh hb0
 have HA : Hid (z1m (n + 1) ((k,is,of,⟨lo,ls,hi,hs,op⟩) : XT m (n + 1)) = z1h (z1m n) (oneX k is) of):=rfl
 have HNX : Hid (∀ x ∈ of,nX n x ≤ 1000000):=by
  intro x h
  have:=z4k (nX n) of x h
  have hx : (if (k : Int) = 1 then (is.map (nF m)).sum else 1) + (of.map (nX n)).sum ≤ 1000000:=hx
  omega
 have q1 : (k == 1) = false:=by simpa using hk
 have HO1 : Hid (oneX k is = 1):=by rw [Hid]; unfold oneX; rw [if_neg hk]
 have HO : Hid (z1h (z1m n) (oneX k is) (of.take 0) = 1):=HO1.out
 clear hR hR1 ih hb0 hx hk HO1
 go_enter Tryz.func105,Tryz.ntmps105
 go_wp2_with fail
 go_loopw [3,4] (fun q i wr => q = .int .i64 1 ∧ i = .int .i64 0 ∧ wr = w.alloc (.cells #[.int .u8 k,.slice a1 is.length c1,.slice a of.length c,.int .i64 lo,.bool ls,.int .i64 hi,.bool hs,.bool op] 47)) (fun _ _ _ => 0)
 case atStart => exact ⟨rfl,rfl,rfl⟩
 case round =>
  obtain ⟨rfl,rfl,rfl⟩:=hrel
  have hbox2 : (w.alloc (.cells #[.int .u8 k,.slice a1 is.length c1,.slice a of.length c,.int .i64 lo,.bool ls,.int .i64 hi,.bool hs,.bool op] 47)).cell? ⟨w.heap.size,2,none⟩ = some (.slice a of.length c):=by simp [World.cell?_alloc_at]
  have hsz : w.heap.size < (w.alloc (.cells #[.int .u8 k,.slice a1 is.length c1,.slice a of.length c,.int .i64 lo,.bool ls,.int .i64 hi,.bool hs,.bool op] 47)).heap.size:=by simp
  have hj : True:=trivial
  have HBW:=HB0
  have hc : (0 : Int) < ((is.length : Nat) : Int) ∨ ¬ (0 : Int) < ((is.length : Nat) : Int):=by omega
  rcases hc with hc | hc
  all_goals
   go_wp2_with fail
   go_loopw [3,5] (fun q i wr => ∃ (j : Nat) (z : Int),j ≤ of.length ∧ i = .int .i64 j ∧ q = .int .i64 z ∧ Hid (z1h (z1m n) (oneX k is) (of.take j) = z) ∧ Below w.heap.size w wr ∧ w.heap.size < wr.heap.size ∧ wr.cell? ⟨w.heap.size,2,none⟩ = some (.slice a of.length c)) (fun _ i _ => of.length - (intOf i).toNat)
   case atStart => exact ⟨0,_,Nat.zero_le _,rfl,rfl,HO,HBW.out,hsz,hbox2⟩
   case round =>
    clear HBW HO hsz hj hbox2
    try clear hbox0
    try clear hbox1
    try clear hltI
    obtain ⟨j,z,hj,rfl,rfl,HT,hbw,hsz,hbox2⟩:=hrel
    have HBW:=Jh hbw
    by_cases hlt : j < of.length
    ·have hltI : ((j : Nat) : Int) < ((of.length : Nat) : Int):=by omega
     obtain ⟨b,off,k',a1',l1',c1',a2',l2',c2',lo',ls',hi',hs',op',rfl,hbl,c0,d1,c2,c3,c4,c5,c6,c7,hr⟩:=(XRow.up HR.out hbw (Nat.le_refl _)).at j hlt
     have hz:=hbw.size
     have hbl' : b < wr.heap.size:=by omega
     have HC:=Jh (HIH.out of[j] _ wr (HNX.out _ (List.getElem_mem hlt)) (hr.up (Below.refl _ _) hz))
     have HS:=Jh (z2d (z1m n) (oneX k is) of j hlt)
     clear hr hbw
     generalize (z1m n) of[j] = y at HC HS
     have HT' : Hid (z1h (z1m n) (oneX k is) (of.take (j + 1)) = wrap64 (z + y)):=by rw [Hid,HS.out,HT.out]
     go_wp2_with fail
     refine HC.out.mono ?_
     rintro e w3 ⟨rfl,hb3⟩
     have HB3:=Jh (HBW.out.trans (hb3.mono hz))
     have hsz3 : w.heap.size < w3.heap.size:=by have:=hb3.size; omega
     have gbox2:=(hb3.cell (p:=⟨w.heap.size,2,none⟩) hsz).trans hbox2
     clear hb3
     go_wp2_with fail
     go_roundw
     case rel => exact ⟨j + 1,_,by omega,by go_num,rfl,HT',HB3.out,hsz3,gbox2⟩
     case measure => simp [intOf]; omega
    ·have hje : j = of.length:=by omega
     subst hje
     have hltI : ¬ ((of.length : Nat) : Int) < ((of.length : Nat) : Int):=by omega
     have HALL : Hid (z1h (z1m n) (oneX k is) of = z):=by have h:=HT.out; rw [List.take_length] at h; exact h
     clear HT
     go_wp2_with fail
     all_goals go_ret
     all_goals exact ⟨z0u (by rw [HA.out,HALL.out]),HBW.out⟩
theorem many82_any (m n : Nat) : ManyC m n:=by
 induction n with
 | zero => intro t v w _ h; exact h.elim
 | succ n ih =>
  intro t v w hx h
  obtain ⟨k,is,of,lo,ls,hi,hs,op⟩:=t
  obtain ⟨a1,c1,a,c,rfl,hR1,hR⟩:=h
  dsimp only at hR hR1 ⊢
  by_cases hk : k = 1
  ·subst hk
   exact many82_one m n ih is of a1 a c1 c lo hi ls hs op w hR1 hR hx
  ·exact many82_other m n ih k hk is of a1 a c1 c lo hi ls hs op w hR1 hR hx
theorem z49 {m : Nat} : ∀ (n : Nat) (t : XT m n),allX z02 n t = true → allX z11 n t = !z14 n t
 | 0,t,_ => nomatch t
 | n + 1,t,h => by
  obtain ⟨k,is,of,i⟩:=t
  have h : (z02 k is of.length i && of.all (allX z02 n)) = true:=h
  show (z11 k is of.length i && of.all (allX z11 n)) = !((k == 6 && empI i) || of.any (z14 n))
  rw [Bool.and_eq_true,List.all_eq_true] at h
  obtain ⟨h1,h2⟩:=h
  have e1 : z11 k is of.length i = !(k == 6 && empI i):=by
   unfold z11
   by_cases hk : k = 6
   ·subst hk
    rw [rightX_six] at h1
    simp only [Bool.and_eq_true] at h1
    rw [ivR_two,h1.2]
    cases empI i <;> rfl
   ·have : (k == 6) = false:=by simpa using hk
    have hn : (k != 6) = true:=by simp [bne,this]
    rw [this,hn]; rfl
  have e2 : of.all (allX z11 n) = !of.any (z14 n):=by
   rw [List.not_any_eq_all_not]
   rw [Bool.eq_iff_iff,List.all_eq_true,List.all_eq_true]
   exact ⟨fun H x hx => by rw [← z49 n x (h2 x hx)]; exact H x hx,fun H x hx => by rw [z49 n x (h2 x hx)]; exact H x hx⟩
  rw [e1,e2,Bool.not_or]
theorem check39_any (names : List ByteArray) (nv : Value) (hs0 : ∀ s ∈ names,s.size ≤ 4611686018427387904) (m n : Nat) (t : XT m n) (v : Value) (w : World) (hx : nX n t ≤ 1000000) (hn : NRep w w.heap.size nv names) (h : XRep w w.heap.size m n t v) :
 Calls Tryz.prog 54 #[nv,v] w fun e w' => e = .returned (.int .i64 (z0z names n t)) ∧ Below w.heap.size w w':=by
 have HN:=Jh hn
 have HXR:=Jh h
 obtain ⟨k,a1,l1,c1,a,l,c,lo,ls,hi,hs,op,rfl⟩:=h.shape
 have hb0 : Below w.heap.size w (w.alloc (.cells #[.int .u8 k,.slice a1 l1 c1,.slice a l c,.int .i64 lo,.bool ls,.int .i64 hi,.bool hs,.bool op] 47)):=(Below.refl _ w).alloc (Nat.le_refl _) _
 have HB0:=Jh hb0
 have HCELLS : Hid (∀ W,Below (w.heap.size + 1) (w.alloc (.cells #[.int .u8 k,.slice a1 l1 c1,.slice a l c,.int .i64 lo,.bool ls,.int .i64 hi,.bool hs,.bool op] 47)) W → W.heap[w.heap.size]? = some (.cells #[.int .u8 k,.slice a1 l1 c1,.slice a l c,.int .i64 lo,.bool ls,.int .i64 hi,.bool hs,.bool op] 47 (0,0))):=by
  intro W hW
  rw [hW.block _ (by omega)]
  exact heap_top rfl
 have HM:=Jh (mayNames46_any names nv hs0 (w.alloc (.cells #[.int .u8 k,.slice a1 l1 c1,.slice a l c,.int .i64 lo,.bool ls,.int .i64 hi,.bool hs,.bool op] 47)) (hn.up hb0 hb0.size))
 have HR81 : Hid (∀ W,Below w.heap.size w W → Calls Tryz.prog 104 #[.agg #[.int .u8 k,.slice a1 l1 c1,.slice a l c,.int .i64 lo,.bool ls,.int .i64 hi,.bool hs,.bool op]] W fun e w' => e = .returned (.bool (allX z02 n t)) ∧ Below W.heap.size W w'):=fun W hW => right81_any m n t _ W (HXR.out.up hW hW.size)
 have HM82 : Hid (∀ W,Below w.heap.size w W → Calls Tryz.prog 105 #[.agg #[.int .u8 k,.slice a1 l1 c1,.slice a l c,.int .i64 lo,.bool ls,.int .i64 hi,.bool hs,.bool op]] W fun e w' => e = .returned (.int .i64 (z1m n t)) ∧ Below W.heap.size W w'):=fun W hW => many82_any m n t _ W hx (HXR.out.up hW hW.size)
 have HK83 : Hid (∀ W,Below w.heap.size w W → Calls Tryz.prog 106 #[nv,.agg #[.int .u8 k,.slice a1 l1 c1,.slice a l c,.int .i64 lo,.bool ls,.int .i64 hi,.bool hs,.bool op]] W fun e w' => e = .returned (.bool (allX (z12 names) n t)) ∧ Below W.heap.size W w'):=fun W hW => known83_any names nv w HN.out m n t _ W (HXR.out.up hW hW.size) hW
 have HE84 : Hid (∀ W,Below w.heap.size w W → Calls Tryz.prog 107 #[.agg #[.int .u8 k,.slice a1 l1 c1,.slice a l c,.int .i64 lo,.bool ls,.int .i64 hi,.bool hs,.bool op]] W fun e w' => e = .returned (.bool (z14 n t)) ∧ Below W.heap.size W w'):=fun W hW => empty84_any m n t _ W (HXR.out.up hW hW.size)
 have HR : Hid (z0z names n t = if decide (z0r names = 0) = false then 2 else if allX z02 n t = false then 8 else if 64 < z1m n t then 160 else if allX (z12 names) n t = false then 161 else if z14 n t = true then 162 else 0):=by
  rw [Hid]
  unfold z0z
  by_cases q1 : z0r names = 0
  ·cases q2 : allX z02 n t with
   | false => simp [q1]
   | true => simp [q1,z49 n t q2]
  ·simp [q1]
 clear hb0 h hn hx hs0
 generalize z0z names n t = res at HR ⊢
 generalize decide (z0r names = 0) = b1 at HM HR
 generalize allX z02 n t = b2 at HR81 HR
 generalize z1m n t = z3 at HM82 HR
 generalize allX (z12 names) n t = b4 at HK83 HR
 generalize z14 n t = b5 at HE84 HR
 cases b1 with
 | false =>
  have HR' : Hid (res = 2):=HR.out
  clear HR
  go_enter Tryz.func54,Tryz.ntmps54
  go_wp2_with fail
  refine HM.out.mono ?_
  rintro e w1 ⟨rfl,rfl⟩
  go_wp2_with fail
  all_goals go_ret
  all_goals exact ⟨z0u (by rw [HR'.out]),HB0.out⟩
 | true =>
  cases b2 with
  | false =>
   have HR' : Hid (res = 8):=HR.out
   have HC:=Jh (HR81.out _ HB0.out)
   clear HR
   go_enter Tryz.func54,Tryz.ntmps54
   go_wp2_with fail
   refine HM.out.mono ?_
   rintro e w1 ⟨rfl,rfl⟩
   go_wp2_with fail
   refine HC.out.mono ?_
   rintro e w1 ⟨rfl,hb1⟩
   have HB1:=Jh (HB0.out.trans (hb1.mono HB0.out.size))
   clear hb1
   go_wp2_with fail
   all_goals go_ret
   all_goals exact ⟨z0u (by rw [HR'.out]),HB1.out⟩
  | true =>
   have HC:=Jh (HR81.out _ HB0.out)
   by_cases q3 : 64 < z3
   ·have HR' : Hid (res = 160):=by rw [Hid,HR.out,if_neg (by simp),if_neg (by simp),if_pos q3]
    clear HR
    go_enter Tryz.func54,Tryz.ntmps54
    go_wp2_with fail
    refine HM.out.mono ?_
    rintro e w1 ⟨rfl,rfl⟩
    go_wp2_with fail
    refine HC.out.mono ?_
    rintro e w1 ⟨rfl,hb1⟩
    have HB1:=Jh (HB0.out.trans (hb1.mono HB0.out.size))
    have HT1 : Hid (Below (w.heap.size + 1) (w.alloc (.cells #[.int .u8 k,.slice a1 l1 c1,.slice a l c,.int .i64 lo,.bool ls,.int .i64 hi,.bool hs,.bool op] 47)) w1):=hb1.mono (by simp)
    have hk1:=HCELLS.out _ HT1.out
    obtain ⟨x10,x11,x12,x13,x14,x15,x16,x17⟩:=cc8 hk1
    have hsz1 : w.heap.size < w1.heap.size:=by have:=HT1.out.size; simp at this; omega
    clear hk1 hb1
    have HC2:=Jh (HM82.out _ HB1.out)
    go_wp2_with fail
    refine HC2.out.mono ?_
    rintro e w2 ⟨rfl,hb2⟩
    have HB2:=Jh (HB1.out.trans (hb2.mono HB1.out.size))
    clear hb2
    go_wp2_with fail
    all_goals go_ret
    all_goals exact ⟨z0u (by rw [HR'.out]),HB2.out⟩
   ·cases b4 with
    | false =>
     have HR' : Hid (res = 161):=by rw [Hid,HR.out,if_neg (by simp),if_neg (by simp),if_neg q3]; rfl
     clear HR
     go_enter Tryz.func54,Tryz.ntmps54
     go_wp2_with fail
     refine HM.out.mono ?_
     rintro e w1 ⟨rfl,rfl⟩
     go_wp2_with fail
     refine HC.out.mono ?_
     rintro e w1 ⟨rfl,hb1⟩
     have HB1:=Jh (HB0.out.trans (hb1.mono HB0.out.size))
     have HT1 : Hid (Below (w.heap.size + 1) (w.alloc (.cells #[.int .u8 k,.slice a1 l1 c1,.slice a l c,.int .i64 lo,.bool ls,.int .i64 hi,.bool hs,.bool op] 47)) w1):=hb1.mono (by simp)
     have hk1:=HCELLS.out _ HT1.out
     obtain ⟨x10,x11,x12,x13,x14,x15,x16,x17⟩:=cc8 hk1
     have hsz1 : w.heap.size < w1.heap.size:=by have:=HT1.out.size; simp at this; omega
     clear hk1 hb1
     have HC2:=Jh (HM82.out _ HB1.out)
     go_wp2_with fail
     refine HC2.out.mono ?_
     rintro e w2 ⟨rfl,hb2⟩
     have HB2:=Jh (HB1.out.trans (hb2.mono HB1.out.size))
     have HT2 : Hid (Below (w.heap.size + 1) (w.alloc (.cells #[.int .u8 k,.slice a1 l1 c1,.slice a l c,.int .i64 lo,.bool ls,.int .i64 hi,.bool hs,.bool op] 47)) w2):=HT1.out.trans (hb2.mono (by have:=HT1.out.size; simp at this; omega))
     have hk2:=HCELLS.out _ HT2.out
     obtain ⟨x20,x21,x22,x23,x24,x25,x26,x27⟩:=cc8 hk2
     have hsz2 : w.heap.size < w2.heap.size:=by have:=HT2.out.size; simp at this; omega
     clear hk2 hb2
     clear x10 x11 x12 x13 x14 x15 x16 x17 hsz1
     have HC3:=Jh (HK83.out _ HB2.out)
     go_wp2_with fail
     refine HC3.out.mono ?_
     rintro e w3 ⟨rfl,hb3⟩
     have HB3:=Jh (HB2.out.trans (hb3.mono HB2.out.size))
     clear hb3
     go_wp2_with fail
     all_goals go_ret
     all_goals exact ⟨z0u (by rw [HR'.out]),HB3.out⟩
    | true =>
     have HR' : Hid (res = if b5 = true then 162 else 0):=by rw [Hid,HR.out,if_neg (by simp),if_neg (by simp),if_neg q3,if_neg (by simp)]
     clear HR
     go_enter Tryz.func54,Tryz.ntmps54
     go_wp2_with fail
     refine HM.out.mono ?_
     rintro e w1 ⟨rfl,rfl⟩
     go_wp2_with fail
     refine HC.out.mono ?_
     rintro e w1 ⟨rfl,hb1⟩
     have HB1:=Jh (HB0.out.trans (hb1.mono HB0.out.size))
     have HT1 : Hid (Below (w.heap.size + 1) (w.alloc (.cells #[.int .u8 k,.slice a1 l1 c1,.slice a l c,.int .i64 lo,.bool ls,.int .i64 hi,.bool hs,.bool op] 47)) w1):=hb1.mono (by simp)
     have hk1:=HCELLS.out _ HT1.out
     obtain ⟨x10,x11,x12,x13,x14,x15,x16,x17⟩:=cc8 hk1
     have hsz1 : w.heap.size < w1.heap.size:=by have:=HT1.out.size; simp at this; omega
     clear hk1 hb1
     have HC2:=Jh (HM82.out _ HB1.out)
     go_wp2_with fail
     refine HC2.out.mono ?_
     rintro e w2 ⟨rfl,hb2⟩
     have HB2:=Jh (HB1.out.trans (hb2.mono HB1.out.size))
     have HT2 : Hid (Below (w.heap.size + 1) (w.alloc (.cells #[.int .u8 k,.slice a1 l1 c1,.slice a l c,.int .i64 lo,.bool ls,.int .i64 hi,.bool hs,.bool op] 47)) w2):=HT1.out.trans (hb2.mono (by have:=HT1.out.size; simp at this; omega))
     have hk2:=HCELLS.out _ HT2.out
     obtain ⟨x20,x21,x22,x23,x24,x25,x26,x27⟩:=cc8 hk2
     have hsz2 : w.heap.size < w2.heap.size:=by have:=HT2.out.size; simp at this; omega
     clear hk2 hb2
     clear x10 x11 x12 x13 x14 x15 x16 x17 hsz1
     have HC3:=Jh (HK83.out _ HB2.out)
     go_wp2_with fail
     refine HC3.out.mono ?_
     rintro e w3 ⟨rfl,hb3⟩
     have HB3:=Jh (HB2.out.trans (hb3.mono HB2.out.size))
     have HT3 : Hid (Below (w.heap.size + 1) (w.alloc (.cells #[.int .u8 k,.slice a1 l1 c1,.slice a l c,.int .i64 lo,.bool ls,.int .i64 hi,.bool hs,.bool op] 47)) w3):=HT2.out.trans (hb3.mono (by have:=HT2.out.size; simp at this; omega))
     have hk3:=HCELLS.out _ HT3.out
     obtain ⟨x30,x31,x32,x33,x34,x35,x36,x37⟩:=cc8 hk3
     have hsz3 : w.heap.size < w3.heap.size:=by have:=HT3.out.size; simp at this; omega
     clear hk3 hb3
     clear x20 x21 x22 x23 x24 x25 x26 x27 hsz2
     have HC4:=Jh (HE84.out _ HB3.out)
     go_wp2_with fail
     refine HC4.out.mono ?_
     rintro e w4 ⟨rfl,hb4⟩
     have HB4:=Jh (HB3.out.trans (hb4.mono HB3.out.size))
     clear hb4
     cases b5 with
     | true =>
      go_wp2_with fail
      all_goals go_ret
      all_goals exact ⟨z0u (by rw [HR'.out]; rfl),HB4.out⟩
     | false =>
      go_wp2_with fail
      all_goals go_ret
      all_goals exact ⟨z0u (by rw [HR'.out]; rfl),HB4.out⟩
end Go.Proofs.YtockinpjfhhkoaaGreatDoor
