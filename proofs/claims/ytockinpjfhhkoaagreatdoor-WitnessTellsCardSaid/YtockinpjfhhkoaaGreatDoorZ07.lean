/- Layer 16 walked: nodes counted. -/
import Derived.Test.YtockinpjfhhkoaaGreatDoorZ02
import Derived.Test.YtockinpjfhhkoaaGreatDoorZ01
import Derived.Deep.QuietTactic
import Derived.BigQuiet
set_option maxRecDepth 100000
set_option maxHeartbeats 16000000
open Go.Lib renaming hid → Jh
namespace Go.Proofs.YtockinpjfhhkoaaGreatDoor
open Go.RowKit
theorem one58_any (k : Int) (s : ByteArray) (a : Option Addr) (l c : Nat) (w : World) :
 Calls Tryz.prog 144 #[.agg #[.int .u8 k,.string s,.slice a l c]] w fun e w' => e = .returned (.int .i64 1) ∧ Below w.heap.size w w':=by
 go_enter Tryz.func144,Tryz.ntmps144
 go_wp2_with fail
 all_goals go_ret
 all_goals exact ⟨rfl,(Below.refl _ _).alloc (Nat.le_refl _) _⟩
theorem count57_any (n : Nat) : ∀ (t : FT n) (v : Value) (w : World),FRep w w.heap.size n t v →
 Calls Tryz.prog 143 #[v,.func (.func 132) #[] #[],.func (.func 144) #[] #[]] w fun e w' => e = .returned (.int .i64 (cntF n t)) ∧ Below w.heap.size w w':=by
 induction n with
 | zero => intro t v w h; exact h.elim
 | succ n ih =>
  intro t v w h
  obtain ⟨k,s,of⟩:=t
  obtain ⟨a,c,rfl,hR⟩:=h
  dsimp only at hR ⊢
  have hm:=hR.1
  have HR:=Jh hR
  have IH:=Jh ih
  have HE : Hid (cntF (n + 1) (k,s,of) = z1h (cntF n) 1 of):=rfl
  clear hR ih
  go_enter Tryz.func143,Tryz.ntmps143
  go_wp2_with fail
  refine (one58_any _ _ _ _ _ _).mono ?_
  rintro e w1 ⟨rfl,hb1⟩
  have hbl : w1.heap[w.heap.size]? = some (.cells #[.int .u8 k,.string s,.slice a of.length c] 25 (0,0)):=by
   rw [hb1.block _ (by simp)]; exact Array.getElem?_push_size
  have hb2 : Below w.heap.size w w1:=((Below.refl _ w).alloc (Nat.le_refl _) _).trans (hb1.mono (by simp))
  have HB2:=Jh hb2
  obtain ⟨x1,x2,x3⟩:=cc3 hbl
  clear hb1 hb2 hbl
  go_wp2_with fail
  refine (z3c _ _ _ _ _ _).mono ?_
  rintro e w2 ⟨rfl,hb3⟩
  have HB3:=Jh (HB2.out.trans (hb3.mono HB2.out.size))
  clear hb3 x1 x2 x3
  go_wp2_with fail
  go_loopw [6,16] (fun m i wr => ∃ j : Nat,j ≤ of.length ∧ i = .int .i64 j ∧ m = .int .i64 (z1h (cntF n) 1 (of.take j)) ∧ Below w.heap.size w wr) (fun _ i _ => of.length - (intOf i).toNat)
  case atStart => exact ⟨0,Nat.zero_le _,rfl,rfl,HB3.out⟩
  case round =>
   obtain ⟨j,hj,rfl,rfl,hbw⟩:=hrel
   have HBW:=Jh hbw
   by_cases hlt : j < of.length
   ·obtain ⟨b,off,k',s',sa,sl,sc,rfl,hbl,c0,c1,c2,hr⟩:=(FRow.up HR.out hbw (Nat.le_refl _)).at j hlt
    have hz:=hbw.size
    have hbl' : b < wr.heap.size:=by omega
    have hS:=Jh (z2d (cntF n) 1 of j hlt)
    have HC:=Jh (IH.out of[j] _ (wr.alloc (.cells #[.int .u8 k',.string s',.slice sa sl sc] 25)) (hr.up ((Below.refl _ wr).alloc (by omega) _) (by simp; omega)))
    have hba : Below w.heap.size w (wr.alloc (.cells #[.int .u8 k',.string s',.slice sa sl sc] 25)):=hbw.alloc hz _
    have HBA:=Jh hba
    clear hr hbw hba
    go_wp2_with fail
    refine HC.out.mono ?_
    rintro e w3 ⟨rfl,hb4⟩
    have HB4:=Jh (HBA.out.trans (hb4.mono HBA.out.size))
    clear hb4
    go_wp2_with fail
    go_roundw
    case rel => exact ⟨j + 1,by omega,by go_num,by rw [hS.out],HB4.out⟩
    case measure => simp [intOf]; omega
   ·have hje : j = of.length:=by omega
    subst hje
    have HA:=Jh (z6s (cntF n) 1 of)
    clear hbw
    go_wp2_with fail
    all_goals go_ret
    all_goals exact ⟨z0u (by rw [HE.out,HA.out]),HBW.out⟩
theorem z3t (n : Nat) (of : List (FT n)) (a : Option Addr) (c : Nat) (w : World) (hR : FRow w w.heap.size n a of) :
 Calls Tryz.prog 79 #[.slice a of.length c] w fun e w' => e = .returned (.int .i64 (fmsC n of)) ∧ Below w.heap.size w w':=by
 have hm:=hR.1
 have HR:=Jh hR
 have HE : Hid (fmsC n of = z1h (cntF n) 0 of):=rfl
 clear hR
 go_enter Tryz.func79,Tryz.ntmps79
 go_wp2_with fail
 go_loopw [2,7] (fun m i wr => ∃ j : Nat,j ≤ of.length ∧ i = .int .i64 j ∧ m = .int .i64 (z1h (cntF n) 0 (of.take j)) ∧ Below w.heap.size w wr) (fun _ i _ => of.length - (intOf i).toNat)
 case atStart => exact ⟨0,Nat.zero_le _,rfl,rfl,Below.refl _ _⟩
 case round =>
  obtain ⟨j,hj,rfl,rfl,hbw⟩:=hrel
  have HBW:=Jh hbw
  by_cases hlt : j < of.length
  ·obtain ⟨b,off,k',s',sa,sl,sc,rfl,hbl,c0,c1,c2,hr⟩:=(FRow.up HR.out hbw (Nat.le_refl _)).at j hlt
   have hz:=hbw.size
   have hbl' : b < wr.heap.size:=by omega
   have hS:=Jh (z2d (cntF n) 0 of j hlt)
   have HC:=Jh (count57_any n of[j] _ (wr.alloc (.cells #[.int .u8 k',.string s',.slice sa sl sc] 25)) (hr.up ((Below.refl _ wr).alloc (by omega) _) (by simp; omega)))
   have hba : Below w.heap.size w (wr.alloc (.cells #[.int .u8 k',.string s',.slice sa sl sc] 25)):=hbw.alloc hz _
   have HBA:=Jh hba
   clear hr hbw hba
   go_wp2_with fail
   refine HC.out.mono ?_
   rintro e w3 ⟨rfl,hb4⟩
   have HB4:=Jh (HBA.out.trans (hb4.mono HBA.out.size))
   clear hb4
   go_wp2_with fail
   go_roundw
   case rel => exact ⟨j + 1,by omega,by go_num,by rw [hS.out],HB4.out⟩
   case measure => simp [intOf]; omega
  ·have hje : j = of.length:=by omega
   subst hje
   have HA:=Jh (z6s (cntF n) 0 of)
   clear hbw
   go_wp2_with fail
   all_goals go_ret
   all_goals exact ⟨z0u (by rw [HE.out,HA.out]),HBW.out⟩
theorem many40_any (m : Nat) (k : Int) (is : List (FT m)) (a1 : Option Addr) (c1 : Nat) (a : Option Addr) (l c : Nat) (lo hi : Int) (ls hs op : Bool) (w : World) (hR : FRow w w.heap.size m a1 is) :
 Calls Tryz.prog 78 #[.agg #[.int .u8 k,.slice a1 is.length c1,.slice a l c,.int .i64 lo,.bool ls,.int .i64 hi,.bool hs,.bool op]] w fun e w' => e = .returned (.int .i64 (oneX k is)) ∧ Below w.heap.size w w':=by
 have hb : Below w.heap.size w (w.alloc (.cells #[.int .u8 k,.slice a1 is.length c1,.slice a l c,.int .i64 lo,.bool ls,.int .i64 hi,.bool hs,.bool op] 47)):=(Below.refl _ _).alloc (Nat.le_refl _) _
 have HF:=Jh (z3t m is a1 c1 _ (hR.up hb hb.size))
 have HB:=Jh hb
 have HE : Hid (oneX k is = if k = 1 then fmsC m is else 1):=rfl
 clear hb hR
 cases q : k == 1 with
 | true =>
  have HQ:=Jh q
  go_enter Tryz.func78,Tryz.ntmps78
  go_wp2_with fail
  refine HF.out.mono ?_
  rintro e w1 ⟨rfl,hb1⟩
  have HB1:=Jh (HB.out.trans (hb1.mono HB.out.size))
  clear hb1
  go_wp2_with fail
  all_goals go_ret
  all_goals exact ⟨z0u (by rw [HE.out,if_pos (by simpa using HQ.out)]),HB1.out⟩
 | false =>
  have HQ:=Jh q
  go_enter Tryz.func78,Tryz.ntmps78
  go_wp2_with fail
  all_goals go_ret
  all_goals exact ⟨z0u (by rw [HE.out,if_neg (by simpa using HQ.out)]),HB.out⟩
theorem count39_any (m n : Nat) : ∀ (t : XT m n) (v : Value) (w : World),XRep w w.heap.size m n t v →
 Calls Tryz.prog 77 #[v,.func (.func 70) #[] #[],.func (.func 78) #[] #[]] w fun e w' => e = .returned (.int .i64 (cntX oneX n t)) ∧ Below w.heap.size w w':=by
 induction n with
 | zero => intro t v w h; exact h.elim
 | succ n ih =>
  intro t v w h
  obtain ⟨k,is,of,lo,ls,hi,hs,op⟩:=t
  obtain ⟨a1,c1,a,c,rfl,hR1,hR⟩:=h
  dsimp only at hR hR1 ⊢
  have hm:=hR.1
  have HR:=Jh hR
  have IH:=Jh ih
  have HE : Hid (cntX oneX (n + 1) ((k,is,of,⟨lo,ls,hi,hs,op⟩) : XT m (n + 1)) = z1h (cntX oneX n) (oneX k is) of):=rfl
  have hbx : Below w.heap.size w (w.alloc (.cells #[.int .u8 k,.slice a1 is.length c1,.slice a of.length c,.int .i64 lo,.bool ls,.int .i64 hi,.bool hs,.bool op] 47)):=(Below.refl _ _).alloc (Nat.le_refl _) _
  have HONE:=Jh (many40_any m k is a1 c1 a of.length c lo hi ls hs op _ (hR1.up hbx hbx.size))
  clear hR ih hR1 hbx
  go_enter Tryz.func77,Tryz.ntmps77
  go_wp2_with fail
  refine HONE.out.mono ?_
  rintro e w1 ⟨rfl,hb1⟩
  have hbl : w1.heap[w.heap.size]? = some (.cells #[.int .u8 k,.slice a1 is.length c1,.slice a of.length c,.int .i64 lo,.bool ls,.int .i64 hi,.bool hs,.bool op] 47 (0,0)):=by
   rw [hb1.block _ (by simp)]; exact Array.getElem?_push_size
  have hb2 : Below w.heap.size w w1:=((Below.refl _ w).alloc (Nat.le_refl _) _).trans (hb1.mono (by simp))
  have HB2:=Jh hb2
  obtain ⟨x0,x1,x2,x3,x4,x5,x6,x7⟩:=cc8 hbl
  clear hb1 hb2 hbl
  generalize oneX k is = N1 at HE
  go_wp2_with fail
  refine (z6h _ _ _ _ _ _ _ _ _ _ _ _ _).mono ?_
  rintro e w2 ⟨rfl,hb3⟩
  have HB3:=Jh (HB2.out.trans (hb3.mono HB2.out.size))
  clear hb3 x0 x1 x2 x3 x4 x5 x6 x7
  go_wp2_with fail
  go_loopw [6,16] (fun m_ i wr => ∃ j : Nat,j ≤ of.length ∧ i = .int .i64 j ∧ m_ = .int .i64 (z1h (cntX oneX n) N1 (of.take j)) ∧ Below w.heap.size w wr) (fun _ i _ => of.length - (intOf i).toNat)
  case atStart => exact ⟨0,Nat.zero_le _,rfl,rfl,HB3.out⟩
  case round =>
   obtain ⟨j,hj,rfl,rfl,hbw⟩:=hrel
   have HBW:=Jh hbw
   by_cases hlt : j < of.length
   ·obtain ⟨b,off,k',a1',l1',c1',a2',l2',c2',lo',ls',hi',hs',op',rfl,hbl,c0,d1,c2,c3,c4,c5,c6,c7,hr⟩:=(XRow.up HR.out hbw (Nat.le_refl _)).at j hlt
    have hz:=hbw.size
    have hbl' : b < wr.heap.size:=by omega
    have hS:=Jh (z2d (cntX oneX n) N1 of j hlt)
    have HC:=Jh (IH.out of[j] _ (wr.alloc (.cells #[.int .u8 k',.slice a1' l1' c1',.slice a2' l2' c2',.int .i64 lo',.bool ls',.int .i64 hi',.bool hs',.bool op'] 47)) (hr.up ((Below.refl _ wr).alloc (by omega) _) (by simp; omega)))
    have HBA : Hid (∀ o,Below w.heap.size w (wr.alloc o)):=fun o => hbw.alloc hz o
    clear hr hbw
    go_wp2_with fail
    refine HC.out.mono ?_
    rintro e w3 ⟨rfl,hb4⟩
    have HB4:=Jh ((HBA.out _).trans (hb4.mono (HBA.out _).size))
    clear hb4
    go_wp2_with fail
    go_roundw
    case rel => exact ⟨j + 1,by omega,by go_num,by rw [hS.out],HB4.out⟩
    case measure => simp [intOf]; omega
   ·have hje : j = of.length:=by omega
    subst hje
    have HA:=Jh (z6s (cntX oneX n) N1 of)
    clear hbw
    go_wp2_with fail
    all_goals go_ret
    all_goals exact ⟨z0u (by rw [HE.out,HA.out]),HBW.out⟩
theorem many14_any (m n : Nat) (t : XT m n) (v : Value) (w : World) (h : XRep w w.heap.size m n t v) :
 Calls Tryz.prog 33 #[v] w fun e w' => e = .returned (.int .i64 (z1m n t)) ∧ Below w.heap.size w w':=by
 obtain ⟨k,a1,l1,c1,a,l,c,lo,ls,hi,hs,op,rfl⟩:=h.shape
 have hb : Below w.heap.size w (w.alloc (.cells #[.int .u8 k,.slice a1 l1 c1,.slice a l c,.int .i64 lo,.bool ls,.int .i64 hi,.bool hs,.bool op] 47)):=(Below.refl _ _).alloc (Nat.le_refl _) _
 have HC:=Jh (count39_any m n t _ _ (h.up hb hb.size))
 have HB:=Jh hb
 clear h hb
 go_enter Tryz.func33,Tryz.ntmps33
 go_wp2_with fail
 refine HC.out.mono ?_
 rintro e w1 ⟨rfl,hb1⟩
 have HB1:=Jh (HB.out.trans (hb1.mono HB.out.size))
 clear hb1
 go_wp2_with fail
 all_goals go_ret
 all_goals exact ⟨rfl,HB1.out⟩
open Go.RowKit
theorem z07 {w w' : World} {B : Nat} (h : Below B w w') (k : Nat) : Below B w (w'.drewN k):=h.trans ⟨rfl,rfl,rfl,Nat.le_refl _,fun _ _ => rfl⟩
theorem empty_size (s : ByteArray) : (s.toList == []) = decide (s.size = 0):=by
 rw [Bool.eq_iff_iff,beq_iff_eq,decide_eq_true_eq,ByteArray.toList_eq]
 constructor
 ·intro h
  have : s.data.toList.length = 0:=by rw [h]; rfl
  simpa using this
 ·intro h
  have : s.data.toList.length = 0:=by simpa using h
  exact List.eq_nil_of_length_eq_zero this
theorem right44_any (k : Int) (s : ByteArray) (a : Option Addr) (l c : Nat) (w : World) :
 Calls Tryz.prog 140 #[.agg #[.int .u8 k,.string s,.slice a l c]] w fun e w' => e = .returned (.bool (z04 k s l)) ∧ Below w.heap.size w w':=by
 have HS:=Jh (empty_size s)
 have HB : Hid (∀ n : Nat,Below w.heap.size w (((w.alloc (.cells #[.int .u8 k,.string s,.slice a l c] 25)).alloc (.cells #[.int .i64 0,.int .i64 0,.int .i64 0,.int .i64 0,.int .i64 1,.int .i64 2,.int .i64 2] 206)).drewN n)) :=
  fun n => z07 (((Below.refl _ w).alloc (Nat.le_refl _) _).alloc (by simp) _) n
 have hk : k < 1 ∨ k = 1 ∨ k = 2 ∨ k = 3 ∨ k = 4 ∨ k = 5 ∨ k = 6 ∨ 6 < k:=by omega
 rcases hk with h | rfl | rfl | rfl | rfl | rfl | rfl | h
 ·have q : decide (1 ≤ k) = false:=by simp; omega
  have Q:=Jh q
  clear h
  go_enter Tryz.func140,Tryz.ntmps140
  go_wp2_with fail
  go_quiet (fail)
  go_wp2_with fail
  all_goals go_ret
  all_goals exact ⟨z01 (by unfold z04; rw [Q.out]; rfl),HB.out _⟩
 ·by_cases hl : l = 0
  ·subst hl
   cases q : (s.toList == [])
   all_goals
    have Q:=Jh (HS.out.symm.trans q)
    go_enter Tryz.func140,Tryz.ntmps140
    go_wp2_with fail
    go_quiet (fail)
    go_wp2_with fail
    all_goals go_ret
    all_goals exact ⟨z01 (by unfold z04 z0h; rw [Q.out]; rfl),HB.out _⟩
  ·have q : ((l : Int) == 0) = false:=by simp; omega
   have Q : Hid ((l == 0) = false):=by rw [Hid]; simp; omega
   clear hl
   go_enter Tryz.func140,Tryz.ntmps140
   go_wp2_with fail
   go_quiet (fail)
   go_wp2_with fail
   all_goals go_ret
   all_goals exact ⟨z01 (by unfold z04 z0h; have:=Q.out; simp [this]),HB.out _⟩
 ·by_cases hl : l = 0
  ·subst hl
   cases q : (s.toList == [])
   all_goals
    have Q:=Jh (HS.out.symm.trans q)
    go_enter Tryz.func140,Tryz.ntmps140
    go_wp2_with fail
    go_quiet (fail)
    go_wp2_with fail
    all_goals go_ret
    all_goals exact ⟨z01 (by unfold z04 z0h; rw [Q.out]; rfl),HB.out _⟩
  ·have q : ((l : Int) == 0) = false:=by simp; omega
   have Q : Hid ((l == 0) = false):=by rw [Hid]; simp; omega
   clear hl
   go_enter Tryz.func140,Tryz.ntmps140
   go_wp2_with fail
   go_quiet (fail)
   go_wp2_with fail
   all_goals go_ret
   all_goals exact ⟨z01 (by unfold z04 z0h; have:=Q.out; simp [this]),HB.out _⟩
 ·by_cases hl : l = 0
  ·subst hl
   cases q : (s.toList == [])
   all_goals
    have Q:=Jh (HS.out.symm.trans q)
    go_enter Tryz.func140,Tryz.ntmps140
    go_wp2_with fail
    go_quiet (fail)
    go_wp2_with fail
    all_goals go_ret
    all_goals exact ⟨z01 (by unfold z04 z0h; rw [Q.out]; rfl),HB.out _⟩
  ·have q : ((l : Int) == 0) = false:=by simp; omega
   have Q : Hid ((l == 0) = false):=by rw [Hid]; simp; omega
   clear hl
   go_enter Tryz.func140,Tryz.ntmps140
   go_wp2_with fail
   go_quiet (fail)
   go_wp2_with fail
   all_goals go_ret
   all_goals exact ⟨z01 (by unfold z04 z0h; have:=Q.out; simp [this]),HB.out _⟩
 ·by_cases hl : l = 1
  ·subst hl
   cases q : (s.toList == [])
   all_goals
    have Q:=Jh (HS.out.symm.trans q)
    go_enter Tryz.func140,Tryz.ntmps140
    go_wp2_with fail
    go_quiet (fail)
    go_wp2_with fail
    all_goals go_ret
    all_goals exact ⟨z01 (by unfold z04 z0h; rw [Q.out]; rfl),HB.out _⟩
  ·have q : ((l : Int) == 1) = false:=by simp; omega
   have Q : Hid ((l == 1) = false):=by rw [Hid]; simp; omega
   clear hl
   go_enter Tryz.func140,Tryz.ntmps140
   go_wp2_with fail
   go_quiet (fail)
   go_wp2_with fail
   all_goals go_ret
   all_goals exact ⟨z01 (by unfold z04 z0h; have:=Q.out; simp [this]),HB.out _⟩
 ·by_cases hl : l = 2
  ·subst hl
   cases q : (s.toList == [])
   all_goals
    have Q:=Jh (HS.out.symm.trans q)
    go_enter Tryz.func140,Tryz.ntmps140
    go_wp2_with fail
    go_quiet (fail)
    go_wp2_with fail
    all_goals go_ret
    all_goals exact ⟨z01 (by unfold z04 z0h; rw [Q.out]; rfl),HB.out _⟩
  ·have q : ((l : Int) == 2) = false:=by simp; omega
   have Q : Hid ((l == 2) = false):=by rw [Hid]; simp; omega
   clear hl
   go_enter Tryz.func140,Tryz.ntmps140
   go_wp2_with fail
   go_quiet (fail)
   go_wp2_with fail
   all_goals go_ret
   all_goals exact ⟨z01 (by unfold z04 z0h; have:=Q.out; simp [this]),HB.out _⟩
 ·by_cases hl : l = 2
  ·subst hl
   cases q : (s.toList == [])
   all_goals
    have Q:=Jh (HS.out.symm.trans q)
    go_enter Tryz.func140,Tryz.ntmps140
    go_wp2_with fail
    go_quiet (fail)
    go_wp2_with fail
    all_goals go_ret
    all_goals exact ⟨z01 (by unfold z04 z0h; rw [Q.out]; rfl),HB.out _⟩
  ·have q : ((l : Int) == 2) = false:=by simp; omega
   have Q : Hid ((l == 2) = false):=by rw [Hid]; simp; omega
   clear hl
   go_enter Tryz.func140,Tryz.ntmps140
   go_wp2_with fail
   go_quiet (fail)
   go_wp2_with fail
   all_goals go_ret
   all_goals exact ⟨z01 (by unfold z04 z0h; have:=Q.out; simp [this]),HB.out _⟩
 ·have q : decide (1 ≤ k) = true:=by simp; omega
  have q2 : decide (k ≤ 6) = false:=by simp; omega
  have Q:=Jh q2
  clear h
  go_enter Tryz.func140,Tryz.ntmps140
  go_wp2_with fail
  go_quiet (fail)
  go_wp2_with fail
  all_goals go_ret
  all_goals exact ⟨z01 (by unfold z04; rw [Q.out]; simp),HB.out _⟩
theorem so44 (w : World) : SoF w 140 #[] z04:=by
 intro n
 refine ⟨z2g Tryz.func140 (by kernel_rfl) (by kernel_rfl),fun t v w' hb' hr => ?_⟩
 obtain ⟨k,s,of⟩:=t
 obtain ⟨a,c,rfl,_⟩:=hr
 exact right44_any k s a of.length c w'
open Go.RowKit
theorem len0 (n : Nat) : ((n : Int) == 0) = (n == 0):=by rw [Bool.eq_iff_iff]; simp
theorem right34_low (m : Nat) (k : Int) (is : List (FT m)) (a1 : Option Addr) (c1 : Nat) (a : Option Addr) (l c : Nat) (lo hi : Int) (ls hs op : Bool) (w : World) (hk : k < 1) (_hR : FRow w w.heap.size m a1 is) :
 Calls Tryz.prog 71 #[.agg #[.int .u8 k,.slice a1 is.length c1,.slice a l c,.int .i64 lo,.bool ls,.int .i64 hi,.bool hs,.bool op]] w fun e w' => e = .returned (.bool (z02 k is l ⟨lo,ls,hi,hs,op⟩)) ∧ Below w.heap.size w w':=by
 have HB : Hid (∀ n : Nat,Below w.heap.size w (((w.alloc (.cells #[.int .u8 k,.slice a1 is.length c1,.slice a l c,.int .i64 lo,.bool ls,.int .i64 hi,.bool hs,.bool op] 47)).alloc (.cells #[.int .i64 0,.int .i64 0,.int .i64 2,.int .i64 2,.int .i64 2,.int .i64 1,.int .i64 1] 206)).drewN n)) :=
  fun n => z07 (((Below.refl _ w).alloc (Nat.le_refl _) _).alloc (by simp) _) n
 have q : decide (k < 1) = true:=by simp; omega
 have Q : Hid (decide (1 ≤ k) = false):=by rw [Hid]; simp; omega
 clear _hR
 go_enter Tryz.func71,Tryz.ntmps71
 go_wp2_with fail
 go_quiet (fail)
 go_wp2_with fail
 all_goals go_ret
 all_goals exact ⟨z01 (by unfold z02; rw [Q.out]; simp),HB.out _⟩
theorem right34_high (m : Nat) (k : Int) (is : List (FT m)) (a1 : Option Addr) (c1 : Nat) (a : Option Addr) (l c : Nat) (lo hi : Int) (ls hs op : Bool) (w : World) (hk : 6 < k) (_hR : FRow w w.heap.size m a1 is) :
 Calls Tryz.prog 71 #[.agg #[.int .u8 k,.slice a1 is.length c1,.slice a l c,.int .i64 lo,.bool ls,.int .i64 hi,.bool hs,.bool op]] w fun e w' => e = .returned (.bool (z02 k is l ⟨lo,ls,hi,hs,op⟩)) ∧ Below w.heap.size w w':=by
 have HB : Hid (∀ n : Nat,Below w.heap.size w (((w.alloc (.cells #[.int .u8 k,.slice a1 is.length c1,.slice a l c,.int .i64 lo,.bool ls,.int .i64 hi,.bool hs,.bool op] 47)).alloc (.cells #[.int .i64 0,.int .i64 0,.int .i64 2,.int .i64 2,.int .i64 2,.int .i64 1,.int .i64 1] 206)).drewN n)) :=
  fun n => z07 (((Below.refl _ w).alloc (Nat.le_refl _) _).alloc (by simp) _) n
 have q0 : decide (k < 1) = false:=by simp; omega
 have q : decide (6 < k) = true:=by simp; omega
 have Q : Hid (decide (k ≤ 6) = false):=by rw [Hid]; simp; omega
 clear _hR
 go_enter Tryz.func71,Tryz.ntmps71
 go_wp2_with fail
 go_quiet (fail)
 go_wp2_with fail
 all_goals go_ret
 all_goals exact ⟨z01 (by unfold z02; rw [Q.out]; simp),HB.out _⟩
theorem right34_no1 (m : Nat) (is : List (FT m)) (a1 : Option Addr) (c1 : Nat) (a : Option Addr) (l c : Nat) (lo hi : Int) (ls hs op : Bool) (w : World) (_hR : FRow w w.heap.size m a1 is) (hl : l ≠ 0) :
 Calls Tryz.prog 71 #[.agg #[.int .u8 1,.slice a1 is.length c1,.slice a l c,.int .i64 lo,.bool ls,.int .i64 hi,.bool hs,.bool op]] w fun e w' => e = .returned (.bool (z02 1 is l ⟨lo,ls,hi,hs,op⟩)) ∧ Below w.heap.size w w':=by
 have HB : Hid (∀ n : Nat,Below w.heap.size w (((w.alloc (.cells #[.int .u8 1,.slice a1 is.length c1,.slice a l c,.int .i64 lo,.bool ls,.int .i64 hi,.bool hs,.bool op] 47)).alloc (.cells #[.int .i64 0,.int .i64 0,.int .i64 2,.int .i64 2,.int .i64 2,.int .i64 1,.int .i64 1] 206)).drewN n)) :=
  fun n => z07 (((Below.refl _ w).alloc (Nat.le_refl _) _).alloc (by simp) _) n
 have q : ((l : Int) == 0) = false:=by simp; omega
 have Q : Hid ((l == z0m 1) = false):=by rw [Hid]; unfold z0m; simp; omega
 clear hl _hR
 go_enter Tryz.func71,Tryz.ntmps71
 go_wp2_with fail
 go_quiet (fail)
 go_wp2_with fail
 all_goals go_ret
 all_goals exact ⟨z01 (by unfold z02; rw [Q.out]; simp),HB.out _⟩
theorem right34_no2 (m : Nat) (is : List (FT m)) (a1 : Option Addr) (c1 : Nat) (a : Option Addr) (l c : Nat) (lo hi : Int) (ls hs op : Bool) (w : World) (_hR : FRow w w.heap.size m a1 is) (hl : l ≠ 2) :
 Calls Tryz.prog 71 #[.agg #[.int .u8 2,.slice a1 is.length c1,.slice a l c,.int .i64 lo,.bool ls,.int .i64 hi,.bool hs,.bool op]] w fun e w' => e = .returned (.bool (z02 2 is l ⟨lo,ls,hi,hs,op⟩)) ∧ Below w.heap.size w w':=by
 have HB : Hid (∀ n : Nat,Below w.heap.size w (((w.alloc (.cells #[.int .u8 2,.slice a1 is.length c1,.slice a l c,.int .i64 lo,.bool ls,.int .i64 hi,.bool hs,.bool op] 47)).alloc (.cells #[.int .i64 0,.int .i64 0,.int .i64 2,.int .i64 2,.int .i64 2,.int .i64 1,.int .i64 1] 206)).drewN n)) :=
  fun n => z07 (((Below.refl _ w).alloc (Nat.le_refl _) _).alloc (by simp) _) n
 have q : ((l : Int) == 2) = false:=by simp; omega
 have Q : Hid ((l == z0m 2) = false):=by rw [Hid]; unfold z0m; simp; omega
 clear hl _hR
 go_enter Tryz.func71,Tryz.ntmps71
 go_wp2_with fail
 go_quiet (fail)
 go_wp2_with fail
 all_goals go_ret
 all_goals exact ⟨z01 (by unfold z02; rw [Q.out]; simp),HB.out _⟩
theorem right34_no3 (m : Nat) (is : List (FT m)) (a1 : Option Addr) (c1 : Nat) (a : Option Addr) (l c : Nat) (lo hi : Int) (ls hs op : Bool) (w : World) (_hR : FRow w w.heap.size m a1 is) (hl : l ≠ 2) :
 Calls Tryz.prog 71 #[.agg #[.int .u8 3,.slice a1 is.length c1,.slice a l c,.int .i64 lo,.bool ls,.int .i64 hi,.bool hs,.bool op]] w fun e w' => e = .returned (.bool (z02 3 is l ⟨lo,ls,hi,hs,op⟩)) ∧ Below w.heap.size w w':=by
 have HB : Hid (∀ n : Nat,Below w.heap.size w (((w.alloc (.cells #[.int .u8 3,.slice a1 is.length c1,.slice a l c,.int .i64 lo,.bool ls,.int .i64 hi,.bool hs,.bool op] 47)).alloc (.cells #[.int .i64 0,.int .i64 0,.int .i64 2,.int .i64 2,.int .i64 2,.int .i64 1,.int .i64 1] 206)).drewN n)) :=
  fun n => z07 (((Below.refl _ w).alloc (Nat.le_refl _) _).alloc (by simp) _) n
 have q : ((l : Int) == 2) = false:=by simp; omega
 have Q : Hid ((l == z0m 3) = false):=by rw [Hid]; unfold z0m; simp; omega
 clear hl _hR
 go_enter Tryz.func71,Tryz.ntmps71
 go_wp2_with fail
 go_quiet (fail)
 go_wp2_with fail
 all_goals go_ret
 all_goals exact ⟨z01 (by unfold z02; rw [Q.out]; simp),HB.out _⟩
theorem right34_no4 (m : Nat) (is : List (FT m)) (a1 : Option Addr) (c1 : Nat) (a : Option Addr) (l c : Nat) (lo hi : Int) (ls hs op : Bool) (w : World) (_hR : FRow w w.heap.size m a1 is) (hl : l ≠ 2) :
 Calls Tryz.prog 71 #[.agg #[.int .u8 4,.slice a1 is.length c1,.slice a l c,.int .i64 lo,.bool ls,.int .i64 hi,.bool hs,.bool op]] w fun e w' => e = .returned (.bool (z02 4 is l ⟨lo,ls,hi,hs,op⟩)) ∧ Below w.heap.size w w':=by
 have HB : Hid (∀ n : Nat,Below w.heap.size w (((w.alloc (.cells #[.int .u8 4,.slice a1 is.length c1,.slice a l c,.int .i64 lo,.bool ls,.int .i64 hi,.bool hs,.bool op] 47)).alloc (.cells #[.int .i64 0,.int .i64 0,.int .i64 2,.int .i64 2,.int .i64 2,.int .i64 1,.int .i64 1] 206)).drewN n)) :=
  fun n => z07 (((Below.refl _ w).alloc (Nat.le_refl _) _).alloc (by simp) _) n
 have q : ((l : Int) == 2) = false:=by simp; omega
 have Q : Hid ((l == z0m 4) = false):=by rw [Hid]; unfold z0m; simp; omega
 clear hl _hR
 go_enter Tryz.func71,Tryz.ntmps71
 go_wp2_with fail
 go_quiet (fail)
 go_wp2_with fail
 all_goals go_ret
 all_goals exact ⟨z01 (by unfold z02; rw [Q.out]; simp),HB.out _⟩
theorem right34_no5 (m : Nat) (is : List (FT m)) (a1 : Option Addr) (c1 : Nat) (a : Option Addr) (l c : Nat) (lo hi : Int) (ls hs op : Bool) (w : World) (_hR : FRow w w.heap.size m a1 is) (hl : l ≠ 1) :
 Calls Tryz.prog 71 #[.agg #[.int .u8 5,.slice a1 is.length c1,.slice a l c,.int .i64 lo,.bool ls,.int .i64 hi,.bool hs,.bool op]] w fun e w' => e = .returned (.bool (z02 5 is l ⟨lo,ls,hi,hs,op⟩)) ∧ Below w.heap.size w w':=by
 have HB : Hid (∀ n : Nat,Below w.heap.size w (((w.alloc (.cells #[.int .u8 5,.slice a1 is.length c1,.slice a l c,.int .i64 lo,.bool ls,.int .i64 hi,.bool hs,.bool op] 47)).alloc (.cells #[.int .i64 0,.int .i64 0,.int .i64 2,.int .i64 2,.int .i64 2,.int .i64 1,.int .i64 1] 206)).drewN n)) :=
  fun n => z07 (((Below.refl _ w).alloc (Nat.le_refl _) _).alloc (by simp) _) n
 have q : ((l : Int) == 1) = false:=by simp; omega
 have Q : Hid ((l == z0m 5) = false):=by rw [Hid]; unfold z0m; simp; omega
 clear hl _hR
 go_enter Tryz.func71,Tryz.ntmps71
 go_wp2_with fail
 go_quiet (fail)
 go_wp2_with fail
 all_goals go_ret
 all_goals exact ⟨z01 (by unfold z02; rw [Q.out]; simp),HB.out _⟩
theorem right34_no6 (m : Nat) (is : List (FT m)) (a1 : Option Addr) (c1 : Nat) (a : Option Addr) (l c : Nat) (lo hi : Int) (ls hs op : Bool) (w : World) (_hR : FRow w w.heap.size m a1 is) (hl : l ≠ 1) :
 Calls Tryz.prog 71 #[.agg #[.int .u8 6,.slice a1 is.length c1,.slice a l c,.int .i64 lo,.bool ls,.int .i64 hi,.bool hs,.bool op]] w fun e w' => e = .returned (.bool (z02 6 is l ⟨lo,ls,hi,hs,op⟩)) ∧ Below w.heap.size w w':=by
 have HB : Hid (∀ n : Nat,Below w.heap.size w (((w.alloc (.cells #[.int .u8 6,.slice a1 is.length c1,.slice a l c,.int .i64 lo,.bool ls,.int .i64 hi,.bool hs,.bool op] 47)).alloc (.cells #[.int .i64 0,.int .i64 0,.int .i64 2,.int .i64 2,.int .i64 2,.int .i64 1,.int .i64 1] 206)).drewN n)) :=
  fun n => z07 (((Below.refl _ w).alloc (Nat.le_refl _) _).alloc (by simp) _) n
 have q : ((l : Int) == 1) = false:=by simp; omega
 have Q : Hid ((l == z0m 6) = false):=by rw [Hid]; unfold z0m; simp; omega
 clear hl _hR
 go_enter Tryz.func71,Tryz.ntmps71
 go_wp2_with fail
 go_quiet (fail)
 go_wp2_with fail
 all_goals go_ret
 all_goals exact ⟨z01 (by unfold z02; rw [Q.out]; simp),HB.out _⟩
theorem right34_at2 (m : Nat) (is : List (FT m)) (a1 : Option Addr) (c1 : Nat) (a : Option Addr) (l c : Nat) (lo hi : Int) (ls hs op : Bool) (w : World) (_hR : FRow w w.heap.size m a1 is) (hl : l = 2) :
 Calls Tryz.prog 71 #[.agg #[.int .u8 2,.slice a1 is.length c1,.slice a l c,.int .i64 lo,.bool ls,.int .i64 hi,.bool hs,.bool op]] w fun e w' => e = .returned (.bool (z02 2 is l ⟨lo,ls,hi,hs,op⟩)) ∧ Below w.heap.size w w':=by
 subst hl
 have HB : Hid (∀ n : Nat,Below w.heap.size w (((w.alloc (.cells #[.int .u8 2,.slice a1 is.length c1,.slice a 2 c,.int .i64 lo,.bool ls,.int .i64 hi,.bool hs,.bool op] 47)).alloc (.cells #[.int .i64 0,.int .i64 0,.int .i64 2,.int .i64 2,.int .i64 2,.int .i64 1,.int .i64 1] 206)).drewN n)) :=
  fun n => z07 (((Below.refl _ w).alloc (Nat.le_refl _) _).alloc (by simp) _) n
 clear _hR
 go_enter Tryz.func71,Tryz.ntmps71
 go_wp2_with fail
 go_quiet (fail)
 go_wp2_with fail
 all_goals go_ret
 all_goals exact ⟨z01 (by unfold z02 z0m noSpan; simp_all [len0]),z07 (((Below.refl _ w).alloc (Nat.le_refl _) _).alloc (by simp) _) _⟩
theorem right34_at3 (m : Nat) (is : List (FT m)) (a1 : Option Addr) (c1 : Nat) (a : Option Addr) (l c : Nat) (lo hi : Int) (ls hs op : Bool) (w : World) (_hR : FRow w w.heap.size m a1 is) (hl : l = 2) :
 Calls Tryz.prog 71 #[.agg #[.int .u8 3,.slice a1 is.length c1,.slice a l c,.int .i64 lo,.bool ls,.int .i64 hi,.bool hs,.bool op]] w fun e w' => e = .returned (.bool (z02 3 is l ⟨lo,ls,hi,hs,op⟩)) ∧ Below w.heap.size w w':=by
 subst hl
 have HB : Hid (∀ n : Nat,Below w.heap.size w (((w.alloc (.cells #[.int .u8 3,.slice a1 is.length c1,.slice a 2 c,.int .i64 lo,.bool ls,.int .i64 hi,.bool hs,.bool op] 47)).alloc (.cells #[.int .i64 0,.int .i64 0,.int .i64 2,.int .i64 2,.int .i64 2,.int .i64 1,.int .i64 1] 206)).drewN n)) :=
  fun n => z07 (((Below.refl _ w).alloc (Nat.le_refl _) _).alloc (by simp) _) n
 clear _hR
 go_enter Tryz.func71,Tryz.ntmps71
 go_wp2_with fail
 go_quiet (fail)
 go_wp2_with fail
 all_goals go_ret
 all_goals exact ⟨z01 (by unfold z02 z0m noSpan; simp_all [len0]),z07 (((Below.refl _ w).alloc (Nat.le_refl _) _).alloc (by simp) _) _⟩
theorem right34_at4 (m : Nat) (is : List (FT m)) (a1 : Option Addr) (c1 : Nat) (a : Option Addr) (l c : Nat) (lo hi : Int) (ls hs op : Bool) (w : World) (_hR : FRow w w.heap.size m a1 is) (hl : l = 2) :
 Calls Tryz.prog 71 #[.agg #[.int .u8 4,.slice a1 is.length c1,.slice a l c,.int .i64 lo,.bool ls,.int .i64 hi,.bool hs,.bool op]] w fun e w' => e = .returned (.bool (z02 4 is l ⟨lo,ls,hi,hs,op⟩)) ∧ Below w.heap.size w w':=by
 subst hl
 have HB : Hid (∀ n : Nat,Below w.heap.size w (((w.alloc (.cells #[.int .u8 4,.slice a1 is.length c1,.slice a 2 c,.int .i64 lo,.bool ls,.int .i64 hi,.bool hs,.bool op] 47)).alloc (.cells #[.int .i64 0,.int .i64 0,.int .i64 2,.int .i64 2,.int .i64 2,.int .i64 1,.int .i64 1] 206)).drewN n)) :=
  fun n => z07 (((Below.refl _ w).alloc (Nat.le_refl _) _).alloc (by simp) _) n
 clear _hR
 go_enter Tryz.func71,Tryz.ntmps71
 go_wp2_with fail
 go_quiet (fail)
 go_wp2_with fail
 all_goals go_ret
 all_goals exact ⟨z01 (by unfold z02 z0m noSpan; simp_all [len0]),z07 (((Below.refl _ w).alloc (Nat.le_refl _) _).alloc (by simp) _) _⟩
theorem right34_at5 (m : Nat) (is : List (FT m)) (a1 : Option Addr) (c1 : Nat) (a : Option Addr) (l c : Nat) (lo hi : Int) (ls hs op : Bool) (w : World) (_hR : FRow w w.heap.size m a1 is) (hl : l = 1) :
 Calls Tryz.prog 71 #[.agg #[.int .u8 5,.slice a1 is.length c1,.slice a l c,.int .i64 lo,.bool ls,.int .i64 hi,.bool hs,.bool op]] w fun e w' => e = .returned (.bool (z02 5 is l ⟨lo,ls,hi,hs,op⟩)) ∧ Below w.heap.size w w':=by
 subst hl
 have HB : Hid (∀ n : Nat,Below w.heap.size w (((w.alloc (.cells #[.int .u8 5,.slice a1 is.length c1,.slice a 1 c,.int .i64 lo,.bool ls,.int .i64 hi,.bool hs,.bool op] 47)).alloc (.cells #[.int .i64 0,.int .i64 0,.int .i64 2,.int .i64 2,.int .i64 2,.int .i64 1,.int .i64 1] 206)).drewN n)) :=
  fun n => z07 (((Below.refl _ w).alloc (Nat.le_refl _) _).alloc (by simp) _) n
 clear _hR
 go_enter Tryz.func71,Tryz.ntmps71
 go_wp2_with fail
 go_quiet (fail)
 go_wp2_with fail
 all_goals go_ret
 all_goals exact ⟨z01 (by unfold z02 z0m noSpan; simp_all [len0]),z07 (((Below.refl _ w).alloc (Nat.le_refl _) _).alloc (by simp) _) _⟩
theorem right34_at6 (m : Nat) (is : List (FT m)) (a1 : Option Addr) (c1 : Nat) (a : Option Addr) (l c : Nat) (lo hi : Int) (ls hs op : Bool) (w : World) (_hR : FRow w w.heap.size m a1 is) (hl : l = 1) :
 Calls Tryz.prog 71 #[.agg #[.int .u8 6,.slice a1 is.length c1,.slice a l c,.int .i64 lo,.bool ls,.int .i64 hi,.bool hs,.bool op]] w fun e w' => e = .returned (.bool (z02 6 is l ⟨lo,ls,hi,hs,op⟩)) ∧ Below w.heap.size w w':=by
 subst hl
 have HB : Hid (∀ n : Nat,Below w.heap.size w (((w.alloc (.cells #[.int .u8 6,.slice a1 is.length c1,.slice a 1 c,.int .i64 lo,.bool ls,.int .i64 hi,.bool hs,.bool op] 47)).alloc (.cells #[.int .i64 0,.int .i64 0,.int .i64 2,.int .i64 2,.int .i64 2,.int .i64 1,.int .i64 1] 206)).drewN n)) :=
  fun n => z07 (((Below.refl _ w).alloc (Nat.le_refl _) _).alloc (by simp) _) n
 have HI:=Jh (z4m ⟨lo,ls,hi,hs,op⟩)
 have HE : Hid (∀ b,(ivR ⟨lo,ls,hi,hs,op⟩ == 8) = b → z02 6 is 1 ⟨lo,ls,hi,hs,op⟩ = (!b && is.length == 0)):=by
  rintro b h; unfold z02 z0m; rw [h]; simp
 unfold Spn.val at HI
 dsimp only at HI
 generalize ivR ⟨lo,ls,hi,hs,op⟩ = iv at HI HE
 clear _hR
 cases q : iv == 8 with
 | true =>
  have HQ:=Jh (HE.out _ q)
  go_enter Tryz.func71,Tryz.ntmps71
  go_wp2_with fail
  go_quiet (fail)
  go_wp2_with fail
  refine (HI.out _).mono ?_
  rintro e w1 ⟨rfl,hb1⟩
  have HB1:=Jh ((HB.out _).trans (hb1.mono (HB.out _).size))
  clear hb1
  go_wp2_with fail
  all_goals go_ret
  all_goals exact ⟨z01 (by rw [HQ.out]; rfl),HB1.out⟩
 | false =>
  have HQ:=Jh (HE.out _ q)
  go_enter Tryz.func71,Tryz.ntmps71
  go_wp2_with fail
  go_quiet (fail)
  go_wp2_with fail
  refine (HI.out _).mono ?_
  rintro e w1 ⟨rfl,hb1⟩
  have HB1:=Jh ((HB.out _).trans (hb1.mono (HB.out _).size))
  have x0:=(hb1.cell (p:=⟨w.heap.size,0,none⟩) (by simp; omega))
  have x1:=(hb1.cell (p:=⟨w.heap.size,1,none⟩) (by simp; omega))
  simp [World.cell?_alloc_at,World.cell?_drewN,World.cell?_alloc_past] at x0 x1
  clear hb1
  go_wp2_with fail
  all_goals go_ret
  all_goals exact ⟨z01 (by rw [HQ.out,len0]; simp),HB1.out⟩
theorem right34_at1 (m : Nat) (is : List (FT m)) (a1 : Option Addr) (c1 : Nat) (a : Option Addr) (l c : Nat) (lo hi : Int) (ls hs op : Bool) (w : World) (hR : FRow w w.heap.size m a1 is) (hl : l = 0) :
 Calls Tryz.prog 71 #[.agg #[.int .u8 1,.slice a1 is.length c1,.slice a l c,.int .i64 lo,.bool ls,.int .i64 hi,.bool hs,.bool op]] w fun e w' => e = .returned (.bool (z02 1 is l ⟨lo,ls,hi,hs,op⟩)) ∧ Below w.heap.size w w':=by
 subst hl
 have HB : Hid (∀ n : Nat,Below w.heap.size w (((w.alloc (.cells #[.int .u8 1,.slice a1 is.length c1,.slice a 0 c,.int .i64 lo,.bool ls,.int .i64 hi,.bool hs,.bool op] 47)).alloc (.cells #[.int .i64 0,.int .i64 0,.int .i64 2,.int .i64 2,.int .i64 2,.int .i64 1,.int .i64 1] 206)).drewN n)) :=
  fun n => z07 (((Below.refl _ w).alloc (Nat.le_refl _) _).alloc (by simp) _) n
 have HR:=Jh hR
 by_cases hsp : (⟨lo,ls,hi,hs,op⟩ : Spn) = ⟨0,false,0,false,false⟩
 ·injection hsp with h1 h2 h3 h4 h5
  subst h1 h2 h3 h4 h5
  have HE : Hid (z02 1 is 0 ⟨0,false,0,false,false⟩ = ((is.length == 1) && is.all (allF z04 m))):=by
   rw [Hid]; unfold z02 z0m noSpan; simp
  by_cases h1 : is.length = 1
  ·obtain ⟨f,rfl⟩:=List.length_eq_one_iff.1 h1
   have hbn:=HB.out
   have HAT : Hid (∀ n,∃ b off k s sa sl sc,a1 = some ⟨b,off,none⟩ ∧ b < w.heap.size ∧ w.cell? ⟨b,off,none⟩ = some (.int .u8 k) ∧ w.cell? ⟨b,off + 1,none⟩ = some (.string s) ∧
    w.cell? ⟨b,off + 2,none⟩ = some (.slice sa sl sc) ∧ Calls Tryz.prog 131 #[.agg #[.int .u8 k,.string s,.slice sa sl sc],.func (.func 132) #[] #[],.func (.func 140) #[] #[]] (((w.alloc (.cells #[.int .u8 1,.slice a1 1 c1,.slice a 0 c,.int .i64 0,.bool false,.int .i64 0,.bool false,.bool false] 47)).alloc (.cells #[.int .i64 0,.int .i64 0,.int .i64 2,.int .i64 2,.int .i64 2,.int .i64 1,.int .i64 1] 206)).drewN n) fun e w' => e = .returned (.bool (allF z04 m f)) ∧ Below (((w.alloc (.cells #[.int .u8 1,.slice a1 1 c1,.slice a 0 c,.int .i64 0,.bool false,.int .i64 0,.bool false,.bool false] 47)).alloc (.cells #[.int .i64 0,.int .i64 0,.int .i64 2,.int .i64 2,.int .i64 2,.int .i64 1,.int .i64 1] 206)).drewN n).heap.size (((w.alloc (.cells #[.int .u8 1,.slice a1 1 c1,.slice a 0 c,.int .i64 0,.bool false,.int .i64 0,.bool false,.bool false] 47)).alloc (.cells #[.int .i64 0,.int .i64 0,.int .i64 2,.int .i64 2,.int .i64 2,.int .i64 1,.int .i64 1] 206)).drewN n) w'):=by
    intro n
    obtain ⟨b,off,k,s,sa,sl,sc,e,hb,g0,g1,g2,hr⟩:=FRow.at HR.out 0 (by simp)
    have hr' : FRep w w.heap.size m f (.agg #[.int .u8 k,.string s,.slice sa sl sc]):=hr
    exact ⟨b,off,k,s,sa,sl,sc,e,hb,by simpa using g0,by simpa using g1,by simpa using g2,z4t z04 140 #[] m f _ _ (hr'.up (hbn n) (hbn n).size) (so44 _)⟩
   have HFIN : Hid (z02 1 [f] 0 ⟨0,false,0,false,false⟩ = allF z04 m f):=by rw [Hid,HE.out]; simp
   clear h1 hR hbn
   simp only [List.length_cons,List.length_nil,Nat.zero_add] at HB ⊢
   go_enter Tryz.func71,Tryz.ntmps71
   go_wp2_with fail
   go_quiet (fail)
   obtain ⟨b,off,k,s,sa,sl,sc,rfl,hb,g0,g1,g2,hC⟩:=HAT.out nq
   have HC:=Jh hC
   have hb2 : b < w.heap.size + 1:=by omega
   clear hC
   go_wp2_with fail
   refine HC.out.mono ?_
   rintro e w1 ⟨rfl,hb1⟩
   have HB1:=Jh ((HB.out _).trans (hb1.mono (HB.out _).size))
   clear hb1
   go_wp2_with fail
   all_goals go_ret
   all_goals exact ⟨z01 (by rw [HFIN.out]),HB1.out⟩
  ·have q : ((is.length : Int) == 1) = false:=by simp; omega
   have HFIN : Hid (z02 1 is 0 ⟨0,false,0,false,false⟩ = false):=by rw [Hid,HE.out]; simp [h1]
   clear h1 hR
   go_enter Tryz.func71,Tryz.ntmps71
   go_wp2_with fail
   go_quiet (fail)
   go_wp2_with fail
   all_goals go_ret
   all_goals exact ⟨z01 (by rw [HFIN.out]),HB.out _⟩
 ·have HFIN : Hid (z02 1 is 0 ⟨lo,ls,hi,hs,op⟩ = false):=by
   have : ((⟨lo,ls,hi,hs,op⟩ : Spn) != noSpan) = true:=by simpa [noSpan] using hsp
   rw [Hid]; unfold z02; rw [this]; simp
  have q:=hsp
  rw [Spn.mk.injEq] at q
  clear hsp hR
  go_enter Tryz.func71,Tryz.ntmps71
  go_wp2_with fail
  go_quiet (fail)
  go_wp2_with fail
  all_goals first | (exfalso; simp_all; done) | skip
  all_goals go_ret
  all_goals exact ⟨z01 (by rw [HFIN.out]),z07 (((Below.refl _ w).alloc (Nat.le_refl _) _).alloc (by simp) _) _⟩
theorem so34 {m : Nat} (w : World) : SoX (m:=m) w 71 #[] z02:=by
 intro n
 refine ⟨z2g Tryz.func71 (by kernel_rfl) (by kernel_rfl),fun t v w' hb' hr => ?_⟩
 obtain ⟨k,is,of,lo,ls,hi,hs,op⟩:=t
 obtain ⟨a1,c1,a,c,rfl,hR,_⟩:=hr
 dsimp only at hR ⊢
 have hk : k < 1 ∨ k = 1 ∨ k = 2 ∨ k = 3 ∨ k = 4 ∨ k = 5 ∨ k = 6 ∨ 6 < k:=by omega
 rcases hk with h | rfl | rfl | rfl | rfl | rfl | rfl | h
 ·exact right34_low m k is a1 c1 a of.length c lo hi ls hs op w' h hR
 ·by_cases hl : of.length = 0
  ·exact right34_at1 m is a1 c1 a of.length c lo hi ls hs op w' hR hl
  ·exact right34_no1 m is a1 c1 a of.length c lo hi ls hs op w' hR hl
 ·by_cases hl : of.length = 2
  ·exact right34_at2 m is a1 c1 a of.length c lo hi ls hs op w' hR hl
  ·exact right34_no2 m is a1 c1 a of.length c lo hi ls hs op w' hR hl
 ·by_cases hl : of.length = 2
  ·exact right34_at3 m is a1 c1 a of.length c lo hi ls hs op w' hR hl
  ·exact right34_no3 m is a1 c1 a of.length c lo hi ls hs op w' hR hl
 ·by_cases hl : of.length = 2
  ·exact right34_at4 m is a1 c1 a of.length c lo hi ls hs op w' hR hl
  ·exact right34_no4 m is a1 c1 a of.length c lo hi ls hs op w' hR hl
 ·by_cases hl : of.length = 1
  ·exact right34_at5 m is a1 c1 a of.length c lo hi ls hs op w' hR hl
  ·exact right34_no5 m is a1 c1 a of.length c lo hi ls hs op w' hR hl
 ·by_cases hl : of.length = 1
  ·exact right34_at6 m is a1 c1 a of.length c lo hi ls hs op w' hR hl
  ·exact right34_no6 m is a1 c1 a of.length c lo hi ls hs op w' hR hl
 ·exact right34_high m k is a1 c1 a of.length c lo hi ls hs op w' h hR
end Go.Proofs.YtockinpjfhhkoaaGreatDoor
