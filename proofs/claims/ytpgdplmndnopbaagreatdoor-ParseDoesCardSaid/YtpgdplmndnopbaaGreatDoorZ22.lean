/- The book's parser walked: Parse. (Printed by gen_rcm.py.) -/
import Derived.Test.YtpgdplmndnopbaaGreatDoorZ13
import Derived.Test.YtpgdplmndnopbaaGreatDoorZ18
import Derived.Test.YtpgdplmndnopbaaGreatDoorZ21
import Derived.Test.YtpgdplmndnopbaaGreatDoorZ02
set_option maxRecDepth 100000
set_option maxHeartbeats 16000000
namespace Go.Proofs.YtpgdplmndnopbaaGreatDoor
open Go.RowKit
theorem z1w {tm : Array Value} {k4 : Nat} {x0 x1 x2 x3 x4 x5 x6 x7 : Value} {pl cd : Int} {W : World} (t4 : tm[4]? = some (.pointer (some ⟨k4,0,none⟩))) (t5 : tm[5]? = some (.int .i64 pl)) (t6 : tm[6]? = some (.int .i64 cd)) (h : W.heap[k4]? = some (.cells #[x0,x1,x2,x3,x4,x5,x6,x7] 28 (0,0))) :
 (results Tryz.f24 tm).run Tryz.prog W = .ok (.tuple #[.agg #[x0,x1,x2,x3,x4,x5,x6,x7],.int .i64 pl,.int .i64 cd]) W:=by
 have c0 : W.cell? ⟨k4,0,none⟩ = some x0:=Lib.cell_of_heap h 0
 have c1 : W.cell? ⟨k4,1,none⟩ = some x1:=Lib.cell_of_heap h 1
 have c2 : W.cell? ⟨k4,2,none⟩ = some x2:=Lib.cell_of_heap h 2
 have c3 : W.cell? ⟨k4,3,none⟩ = some x3:=Lib.cell_of_heap h 3
 have c4 : W.cell? ⟨k4,4,none⟩ = some x4:=Lib.cell_of_heap h 4
 have c5 : W.cell? ⟨k4,5,none⟩ = some x5:=Lib.cell_of_heap h 5
 have c6 : W.cell? ⟨k4,6,none⟩ = some x6:=Lib.cell_of_heap h 6
 have c7 : W.cell? ⟨k4,7,none⟩ = some x7:=Lib.cell_of_heap h 7
 simp [results,Tryz.results24,go_sem,t4,t5,t6,c0,c1,c2,c3,c4,c5,c6,c7]
theorem z30 {B g : Nat} {w0 w : World} (h : Below B w0 w) (hg : B ≤ g) (v0 v1 v2 v3 v4 v5 v6 v7 : Value) : Below B w0 (set8 w g v0 v1 v2 v3 v4 v5 v6 v7) :=
 (((((((h.setCell (p:=⟨g,0,none⟩) hg v0).setCell (p:=⟨g,1,none⟩) hg v1).setCell (p:=⟨g,2,none⟩) hg v2).setCell (p:=⟨g,3,none⟩) hg v3).setCell (p:=⟨g,4,none⟩) hg v4).setCell (p:=⟨g,5,none⟩) hg v5).setCell (p:=⟨g,6,none⟩) hg v6).setCell (p:=⟨g,7,none⟩) hg v7
theorem drew_at {w : World} {k : Nat} {o : Obj} (h : w.heap[k]? = some o) : w.drew.heap[k]? = some o:=h
theorem bt_below {pb B : Nat} {w w' w0 : World} (h : Bt pb w w') (h0 : Below B w0 w) (hB : B ≤ w.heap.size) (hpb : B ≤ pb) : Below B w0 w' :=
 h0.trans ⟨h.1,h.2.1,h.2.2.1,h.2.2.2.1,fun j hj => h.2.2.2.2 j (by omega) (by omega)⟩
def z3p (names : List ByteArray) (s : ByteArray) (w : World) (e : Ending) (w' : World) : Prop:=∃ v at_ code,e = .returned (.tuple #[v,.int .i64 at_,.int .i64 code]) ∧ ParseIs names s w' v at_ code ∧ Below w.heap.size w w'
def endR (r : PRes X) : Except (Int × Int) X:=match r with
 | .error e => .error e
 | .ok (x,r) => if 1 < r.length then .error (170,z05 r) else .ok x
theorem namesR_two {l : List ByteArray} (h : z15 l ≠ 0) : z15 l = 2:=by
 unfold z15 at h ⊢
 split
 ·rfl
 ·rename_i h2
  rw [if_neg h2] at h
  exact absurd rfl h
theorem parsed_nodes {l : List Tok} {stop : Int} {m n : Nat} {t : XT m n} (h : allR l stop = .ok (toX n t)) : nX n t ≤ l.length + 1:=by
 unfold allR at h
 cases e : treR 66 0 (l ++ [⟨0,⟨#[]⟩,stop⟩]) with
 | error z => rw [e] at h; cases h
 | ok p =>
  obtain ⟨x1,r⟩:=p
  rw [e] at h
  dsimp only at h
  split at h
  ·cases h
  ·injection h with h
   obtain ⟨c,h1,h2⟩:=tre_nd 66 0 _ _ _ e
   have:=h1 m n t h.symm
   simp at h2
   omega
theorem parse24_names (names : List ByteArray) (nv : Value) (hs : ∀ s ∈ names,s.size ≤ 1048576) (s : ByteArray) (w : World) (hn : NRep w w.heap.size nv names) (hq : z15 names ≠ 0) :
 Calls Tryz.prog 24 #[nv,.string s] w (z3p names s w):=by
 obtain ⟨na,nc,rfl,_⟩:=id hn
 obtain ⟨W1,hW1⟩ : ∃ W1,W1 = w.alloc (.cells #[.int .u8 0,.slice none 0 0,.slice none 0 0,.int .i64 0,.bool false,.int .i64 0,.bool false,.bool false] 28):=⟨_,rfl⟩
 have hb1 : Below w.heap.size w W1:=by rw [hW1]; exact (Below.refl _ w).alloc (Nat.le_refl _) _
 have HB1:=Lib.hid hb1
 have HKR1 : Hid (W1.heap[w.heap.size]? = some (.cells #[.int .u8 0,.slice none 0 0,.slice none 0 0,.int .i64 0,.bool false,.int .i64 0,.bool false,.bool false] 28 (0,0))):=by rw [Hid,hW1]; exact z06 rfl
 have HN:=Lib.hid (z31 names _ (fun s h => Nat.le_trans (hs s h) (by omega)) W1 (hn.up hb1 hb1.size))
 have HNR:=Lib.hid hn
 have HS:=Lib.hid hs
 have HW1:=Lib.hid hW1.symm
 have HQ:=Lib.hid hq
 rw [decide_eq_false hq] at HN
 clear hn hs hb1 hW1 hq
 go_enter Tryz.func24,Tryz.ntmps24
 go_upto_region 1 with fail
 rw [HW1.out]
 clear HW1
 go_wp2_with fail
 refine HN.out.mono ?_
 rintro e w2 ⟨rfl,rfl⟩
 have hkr:=HKR1.out
 obtain ⟨xe0,xe1,xe2,xe3,xe4,xe5,xe6,xe7,xf0,xf1,xf2,xf3,xf4,xf5,xf6,xf7⟩:=cf8 hkr
 have hltz:=(Array.getElem?_eq_some_iff.1 hkr).1
 have HAT : Hid ((set8 w2 w.heap.size (.int .u8 0) (.slice none 0 0) (.slice none 0 0) (.int .i64 0) (.bool false) (.int .i64 0) (.bool false) (.bool false)).heap[w.heap.size]? = some (.cells #[.int .u8 0,.slice none 0 0,.slice none 0 0,.int .i64 0,.bool false,.int .i64 0,.bool false,.bool false] 28 (0,0))):=z0c hkr _ _ _ _ _ _ _ _ 
 have HOUT : Hid ((z3p names s w) (.returned (.tuple #[.agg #[.int .u8 0,.slice none 0 0,.slice none 0 0,.int .i64 0,.bool false,.int .i64 0,.bool false,.bool false],.int .i64 0,.int .i64 2])) (set8 w2 w.heap.size (.int .u8 0) (.slice none 0 0) (.slice none 0 0) (.int .i64 0) (.bool false) (.int .i64 0) (.bool false) (.bool false))):=⟨_,_,_,rfl,by have:=ParseIs.names (s:=s) (w:=(set8 w2 w.heap.size (.int .u8 0) (.slice none 0 0) (.slice none 0 0) (.int .i64 0) (.bool false) (.int .i64 0) (.bool false) (.bool false))) HQ.out; rw [namesR_two HQ.out] at this; exact this,z30 HB1.out (Nat.le_refl _) _ _ _ _ _ _ _ _ ⟩
 clear hkr
 go_wp2_with fail
 refine bodyPost_ret (z1w rfl rfl rfl HAT.out) rfl ?_
 exact HOUT.out
theorem parse24_cut (names : List ByteArray) (nv : Value) (hs : ∀ s ∈ names,s.size ≤ 1048576) (s : ByteArray) (w : World) (hn : NRep w w.heap.size nv names) (hq : z15 names = 0) (hc : (cutR s).2.2 ≠ 0) :
 Calls Tryz.prog 24 #[nv,.string s] w (z3p names s w):=by
 obtain ⟨na,nc,rfl,_⟩:=id hn
 obtain ⟨W1,hW1⟩ : ∃ W1,W1 = w.alloc (.cells #[.int .u8 0,.slice none 0 0,.slice none 0 0,.int .i64 0,.bool false,.int .i64 0,.bool false,.bool false] 28):=⟨_,rfl⟩
 have hb1 : Below w.heap.size w W1:=by rw [hW1]; exact (Below.refl _ w).alloc (Nat.le_refl _) _
 have HB1:=Lib.hid hb1
 have HKR1 : Hid (W1.heap[w.heap.size]? = some (.cells #[.int .u8 0,.slice none 0 0,.slice none 0 0,.int .i64 0,.bool false,.int .i64 0,.bool false,.bool false] 28 (0,0))):=by rw [Hid,hW1]; exact z06 rfl
 have HN:=Lib.hid (z31 names _ (fun s h => Nat.le_trans (hs s h) (by omega)) W1 (hn.up hb1 hb1.size))
 have HNR:=Lib.hid hn
 have HS:=Lib.hid hs
 have HW1:=Lib.hid hW1.symm
 have HQ:=Lib.hid hq
 rw [decide_eq_true hq] at HN
 have HCUT:=Lib.hid (cut47_any s W1)
 obtain ⟨pl,hpl⟩ : ∃ pl,pl = (cutR s).2.1:=⟨_,rfl⟩
 obtain ⟨cd,hcd⟩ : ∃ cd,cd = (cutR s).2.2:=⟨_,rfl⟩
 rw [← hcd] at hc
 have HC : Hid (∀ W,ParseIs names s W noX pl cd):=fun W => by rw [hpl,hcd]; exact .cut hq (by rw [← hcd]; exact hc)
 rw [← hpl,← hcd] at HCUT
 have q : (cd != 0) = true:=by simpa using hc
 clear hn hs hb1 hW1 hq hc hpl hcd
 go_enter Tryz.func24,Tryz.ntmps24
 go_upto_region 1 with fail
 rw [HW1.out]
 clear HW1
 go_wp2_with fail
 refine HN.out.mono ?_
 rintro e w2 ⟨rfl,rfl⟩
 go_wp2_with fail
 refine HCUT.out.mono ?_
 rintro e w3 ⟨⟨v',rfl,hown⟩,hb3⟩
 obtain ⟨ta,tc,rfl⟩:=hown.shape
 have HB3:=Lib.hid (HB1.out.trans (hb3.mono HB1.out.size))
 have HKR3:=Lib.hid ((hb3.block _ (Array.getElem?_eq_some_iff.1 HKR1.out).1).trans HKR1.out)
 clear hown hb3
 have hkr:=HKR3.out
 obtain ⟨xe0,xe1,xe2,xe3,xe4,xe5,xe6,xe7,xf0,xf1,xf2,xf3,xf4,xf5,xf6,xf7⟩:=cf8 hkr
 have hltz:=(Array.getElem?_eq_some_iff.1 hkr).1
 have HAT : Hid ((set8 w3 w.heap.size (.int .u8 0) (.slice none 0 0) (.slice none 0 0) (.int .i64 0) (.bool false) (.int .i64 0) (.bool false) (.bool false)).heap[w.heap.size]? = some (.cells #[.int .u8 0,.slice none 0 0,.slice none 0 0,.int .i64 0,.bool false,.int .i64 0,.bool false,.bool false] 28 (0,0))):=z0c hkr _ _ _ _ _ _ _ _ 
 have HOUT : Hid ((z3p names s w) (.returned (.tuple #[.agg #[.int .u8 0,.slice none 0 0,.slice none 0 0,.int .i64 0,.bool false,.int .i64 0,.bool false,.bool false],.int .i64 pl,.int .i64 cd])) (set8 w3 w.heap.size (.int .u8 0) (.slice none 0 0) (.slice none 0 0) (.int .i64 0) (.bool false) (.int .i64 0) (.bool false) (.bool false))):=⟨_,_,_,rfl,HC.out _,z30 HB3.out (Nat.le_refl _) _ _ _ _ _ _ _ _ ⟩
 clear hkr
 go_wp2_with fail
 refine bodyPost_ret (z1w rfl rfl rfl HAT.out) rfl ?_
 exact HOUT.out
theorem parse24_good (names : List ByteArray) (nv : Value) (hs : ∀ s ∈ names,s.size ≤ 1048576) (s : ByteArray) (w : World) (hn : NRep w w.heap.size nv names) (hq : z15 names = 0) (hc : (cutR s).2.2 = 0) :
 Calls Tryz.prog 24 #[nv,.string s] w (z3p names s w):=by
 obtain ⟨na,nc,rfl,_⟩:=id hn
 obtain ⟨W1,hW1⟩ : ∃ W1,W1 = w.alloc (.cells #[.int .u8 0,.slice none 0 0,.slice none 0 0,.int .i64 0,.bool false,.int .i64 0,.bool false,.bool false] 28):=⟨_,rfl⟩
 have hb1 : Below w.heap.size w W1:=by rw [hW1]; exact (Below.refl _ w).alloc (Nat.le_refl _) _
 have HB1:=Lib.hid hb1
 have HKR1 : Hid (W1.heap[w.heap.size]? = some (.cells #[.int .u8 0,.slice none 0 0,.slice none 0 0,.int .i64 0,.bool false,.int .i64 0,.bool false,.bool false] 28 (0,0))):=by rw [Hid,hW1]; exact z06 rfl
 have HN:=Lib.hid (z31 names _ (fun s h => Nat.le_trans (hs s h) (by omega)) W1 (hn.up hb1 hb1.size))
 have HNR:=Lib.hid hn
 have HS:=Lib.hid hs
 have HW1:=Lib.hid hW1.symm
 have HQ:=Lib.hid hq
 rw [decide_eq_true hq] at HN
 obtain ⟨L,hL⟩ : ∃ L,L = (cutR s).1:=⟨_,rfl⟩
 obtain ⟨hcs,hck,hc0⟩:=z6t hc
 have hLl:=cutR_len hc
 have htg:=tok_good hck
 have hCUT:=cut47_any s W1
 rw [hc,hc0,← hL] at hCUT
 rw [← hL] at hLl htg
 have HCUT:=Lib.hid hCUT
 have HTG:=Lib.hid htg
 have HALL : Hid (allR (cutR s).1 s.size = allR L s.size):=by rw [Hid,hL]
 have hssz : s.size ≤ 4096:=hcs
 have HC:=Lib.hid hc
 clear hn hs hb1 hW1 hq hc hL hcs hck hc0 htg hCUT
 go_enter Tryz.func24,Tryz.ntmps24
 go_upto_region 1 with fail
 rw [HW1.out]
 clear HW1
 go_wp2_with fail
 refine HN.out.mono ?_
 rintro e w2 ⟨rfl,rfl⟩
 go_wp2_with fail
 refine HCUT.out.mono ?_
 rintro e w3 ⟨⟨v',rfl,hown⟩,hb3⟩
 obtain ⟨ta,tc,rfl⟩:=hown.shape
 obtain ⟨pb,hpb⟩ : ∃ pb,pb = w3.heap.size:=⟨_,rfl⟩
 have HB3:=Lib.hid (HB1.out.trans (hb3.mono HB1.out.size))
 have HKR3:=Lib.hid ((hb3.block _ (Array.getElem?_eq_some_iff.1 HKR1.out).1).trans HKR1.out)
 have hkp : w.heap.size < pb:=by have:=(Array.getElem?_eq_some_iff.1 HKR3.out).1; omega
 obtain ⟨w4,hw4⟩ : ∃ w4,w4 = w3.alloc (.cells #[.slice ta L.length tc,.int .i64 s.size,.int .i64 0,.int .i64 0,.int .i64 0,.int .i64 0] 87):=⟨_,rfl⟩
 have HRP : Hid (∃ tb,RP pb tb w4 L s.size 0 (0 : Nat) 0 0):=by
  by_cases h0 : L = []
  ·exact ⟨0,⟨ta,tc,by rw [hw4]; exact z06 hpb,.inl h0⟩,by omega,Nat.zero_le _,HTG.out⟩
  ·obtain ⟨g,cap,he,hB,hlt,htc,_⟩:=hown.at h0
   injection he with he1 he2 he3
   subst he1 he3
   exact ⟨g,⟨_,_,by rw [hw4]; exact z06 hpb,.inr ⟨rfl,by omega,by rw [hw4]; simp; omega,htc.agree (by rw [hw4]; exact Lib.alloc_old _ _ _ hlt)⟩⟩,by omega,Nat.zero_le _,HTG.out⟩
 have HB4 : Hid (Below w.heap.size w w4):=by rw [Hid,hw4]; exact HB3.out.alloc (by have:=HB3.out.size; omega) _
 have HKR4 : Hid (w4.heap[w.heap.size]? = some (.cells #[.int .u8 0,.slice none 0 0,.slice none 0 0,.int .i64 0,.bool false,.int .i64 0,.bool false,.bool false] 28 (0,0))):=by rw [Hid,hw4]; exact z0d HKR3.out
 have HW4:=Lib.hid hw4.symm
 have HPB:=Lib.hid hpb.symm
 obtain ⟨tb,hrp⟩:=HRP.out
 have HR4:=Lib.hid hrp
 have HT:=Lib.hid (tre48_any pb tb L s.size 0 66 0 0 w4 (by omega) (by omega) hrp)
 obtain ⟨RES,hRES⟩ : ∃ RES,RES = treR 66 0 (z01 L s.size 0):=⟨_,rfl⟩
 rw [← hRES] at HT
 have HALL2 : Hid (allR (cutR s).1 s.size = endR RES):=by
  rw [Hid,HALL.out,hRES]; rfl
 clear hown hb3 hpb hw4 HRP hrp hRES HALL
 go_upto_region 7 with fail
 rw [HW4.out,HPB.out]
 clear HW4 HPB
 go_wp2_with fail
 cases RES with
 | error c =>
  refine HT.out.mono ?_
  rintro e w5 ⟨hc0,k1,a1,n1,c1,b1,m1,d1,lo1,ls1,hi1,hs1,op1,nx1,dq1,rfl,hd1,hs2⟩
  have HC0:=Lib.hid hc0
  have HB5:=Lib.hid (bt_below hs2.2 HB4.out (by have:=HB4.out.size; omega) (by omega))
  have HKR5:=Lib.hid (hs2.at HKR4.out (by omega))
  have hsz5:=hs2.size
  have hpbl:=HR4.out.lt
  obtain ⟨kx,hkx⟩ : ∃ kx,kx = w5.heap.size:=⟨_,rfl⟩
  obtain ⟨w6,hw6⟩ : ∃ w6,w6 = w5.alloc (.cells #[.int .u8 k1,.slice a1 n1 c1,.slice b1 m1 d1,.int .i64 lo1,.bool ls1,.int .i64 hi1,.bool hs1,.bool op1] 28):=⟨_,rfl⟩
  have HS6 : Hid (Same pb tb w4 w6 L s.size nx1 dq1 c.1 c.2):=by rw [Hid,hw6]; exact hs2.alloc _
  have HB6 : Hid (Below w.heap.size w w6):=by rw [Hid,hw6]; exact HB5.out.alloc (by have:=HB5.out.size; omega) _
  have HKR6 : Hid (w6.heap[w.heap.size]? = some (.cells #[.int .u8 0,.slice none 0 0,.slice none 0 0,.int .i64 0,.bool false,.int .i64 0,.bool false,.bool false] 28 (0,0))):=by rw [Hid,hw6]; exact z0d HKR5.out
  have HKX6 : Hid (w6.heap[kx]? = some (.cells #[.int .u8 k1,.slice a1 n1 c1,.slice b1 m1 d1,.int .i64 lo1,.bool ls1,.int .i64 hi1,.bool hs1,.bool op1] 28 (0,0))):=by rw [Hid,hw6]; exact z06 hkx
  have hkxp : kx ≠ pb:=by omega
  have hkxz : w.heap.size < kx:=by have:=(Array.getElem?_eq_some_iff.1 HKR5.out).1; omega
  have HW6:=Lib.hid hw6.symm
  have HKXW:=Lib.hid hkx.symm
  have HPI : Hid (∀ W,ParseIs names s W noX c.2 c.1):=fun W => .wrong HQ.out HC.out c.1 c.2 HALL2.out
  clear hs2 hc0 hd1 hw6 hkx
  go_upto_region 8 with fail
  rw [HW6.out,HKXW.out]
  clear HW6 HKXW
  obtain ⟨ra,rcap,hblk,_⟩:=HS6.out.1.blk
  have p2:=Lib.cell_of_heap hblk 2
  simp only [List.getElem?_toArray,List.getElem?_cons_zero,List.getElem?_cons_succ] at p2
  clear hblk
  have q : (c.1 != 0) = true:=by have:=HC0.out; simpa using this
  have hle:=HS6.out.1.le
  by_cases hlt : nx1 < L.length
  ·have hltI : ((nx1 : Nat) : Int) < ((L.length : Nat) : Int):=by omega
   have HFS:=Lib.hid (z38 pb tb L s.size nx1 dq1 c.1 c.2 170 HC0.out w6 HS6.out.1)
   go_upto_region 9 with fail
   go_wp2_with fail
   refine HFS.out.mono ?_
   rintro e w7 ⟨rfl,rfl⟩
   have hpbk:=HS6.out.1.blk
   obtain ⟨ra,rcap,hblk,_⟩:=hpbk
   have p4:=Lib.cell_of_heap hblk 4
   have p5:=Lib.cell_of_heap hblk 5
   simp only [List.getElem?_toArray,List.getElem?_cons_zero,List.getElem?_cons_succ] at p4 p5
   have hltp:=HS6.out.1.lt
   clear hblk
   have hkr:=HKR6.out
   obtain ⟨xe0,xe1,xe2,xe3,xe4,xe5,xe6,xe7,xf0,xf1,xf2,xf3,xf4,xf5,xf6,xf7⟩:=cf8 hkr
   have hltz:=(Array.getElem?_eq_some_iff.1 hkr).1
   have HAT : Hid ((set8 w7 w.heap.size (.int .u8 0) (.slice none 0 0) (.slice none 0 0) (.int .i64 0) (.bool false) (.int .i64 0) (.bool false) (.bool false)).drew.heap[w.heap.size]? = some (.cells #[.int .u8 0,.slice none 0 0,.slice none 0 0,.int .i64 0,.bool false,.int .i64 0,.bool false,.bool false] 28 (0,0))):=drew_at (z0c hkr _ _ _ _ _ _ _ _ )
   have HOUT : Hid ((z3p names s w) (.returned (.tuple #[.agg #[.int .u8 0,.slice none 0 0,.slice none 0 0,.int .i64 0,.bool false,.int .i64 0,.bool false,.bool false],.int .i64 c.2,.int .i64 c.1])) (set8 w7 w.heap.size (.int .u8 0) (.slice none 0 0) (.slice none 0 0) (.int .i64 0) (.bool false) (.int .i64 0) (.bool false) (.bool false)).drew):=⟨_,_,_,rfl,HPI.out _,(z30 HB6.out (Nat.le_refl _) _ _ _ _ _ _ _ _ ).drew⟩
   clear hkr
   go_wp2_with fail
   go_region_law (fail)
   all_goals
    go_wp2_with fail
    simp only [Act.put,List.getElem_toArray,List.getElem_cons_succ,List.getElem_cons_zero,List.setIfInBounds_toArray,List.set_cons_zero,List.set_cons_succ]
    refine bodyPost_ret (z1w rfl rfl rfl HAT.out) rfl ?_
    exact HOUT.out
  ·have hltI : ¬ ((nx1 : Nat) : Int) < ((L.length : Nat) : Int):=by omega
   have hpbk:=HS6.out.1.blk
   obtain ⟨ra,rcap,hblk,_⟩:=hpbk
   have p4:=Lib.cell_of_heap hblk 4
   have p5:=Lib.cell_of_heap hblk 5
   simp only [List.getElem?_toArray,List.getElem?_cons_zero,List.getElem?_cons_succ] at p4 p5
   have hltp:=HS6.out.1.lt
   clear hblk
   have hkr:=HKR6.out
   obtain ⟨xe0,xe1,xe2,xe3,xe4,xe5,xe6,xe7,xf0,xf1,xf2,xf3,xf4,xf5,xf6,xf7⟩:=cf8 hkr
   have hltz:=(Array.getElem?_eq_some_iff.1 hkr).1
   have HAT : Hid ((set8 w6 w.heap.size (.int .u8 0) (.slice none 0 0) (.slice none 0 0) (.int .i64 0) (.bool false) (.int .i64 0) (.bool false) (.bool false)).drew.heap[w.heap.size]? = some (.cells #[.int .u8 0,.slice none 0 0,.slice none 0 0,.int .i64 0,.bool false,.int .i64 0,.bool false,.bool false] 28 (0,0))):=drew_at (z0c hkr _ _ _ _ _ _ _ _ )
   have HOUT : Hid ((z3p names s w) (.returned (.tuple #[.agg #[.int .u8 0,.slice none 0 0,.slice none 0 0,.int .i64 0,.bool false,.int .i64 0,.bool false,.bool false],.int .i64 c.2,.int .i64 c.1])) (set8 w6 w.heap.size (.int .u8 0) (.slice none 0 0) (.slice none 0 0) (.int .i64 0) (.bool false) (.int .i64 0) (.bool false) (.bool false)).drew):=⟨_,_,_,rfl,HPI.out _,(z30 HB6.out (Nat.le_refl _) _ _ _ _ _ _ _ _ ).drew⟩
   clear hkr
   go_wp2_with fail
   go_region_law (fail)
   all_goals
    go_wp2_with fail
    simp only [Act.put,List.getElem_toArray,List.getElem_cons_succ,List.getElem_cons_zero,List.setIfInBounds_toArray,List.set_cons_zero,List.set_cons_succ]
    refine bodyPost_ret (z1w rfl rfl rfl HAT.out) rfl ?_
    exact HOUT.out
 | ok xr =>
  obtain ⟨x,r⟩:=xr
  refine HT.out.mono ?_
  rintro e w5 ho
  obtain ⟨k1,a1,n1,c1,b1,m1,d1,lo1,ls1,hi1,hs1,op1,nx1,rfl,hf,hr,hs2⟩:=OutRX.ok ho
  have HB5:=Lib.hid (bt_below hs2.2 HB4.out (by have:=HB4.out.size; omega) (by omega))
  have HKR5:=Lib.hid (hs2.at HKR4.out (by omega))
  have hsz5:=hs2.size
  have hpbl:=HR4.out.lt
  obtain ⟨kx,hkx⟩ : ∃ kx,kx = w5.heap.size:=⟨_,rfl⟩
  obtain ⟨w6,hw6⟩ : ∃ w6,w6 = w5.alloc (.cells #[.int .u8 k1,.slice a1 n1 c1,.slice b1 m1 d1,.int .i64 lo1,.bool ls1,.int .i64 hi1,.bool hs1,.bool op1] 28):=⟨_,rfl⟩
  have HS6 : Hid (Same pb tb w4 w6 L s.size nx1 (0 : Nat) 0 0):=by rw [Hid,hw6]; exact hs2.alloc _
  have HB6 : Hid (Below w.heap.size w w6):=by rw [Hid,hw6]; exact HB5.out.alloc (by have:=HB5.out.size; omega) _
  have HKR6 : Hid (w6.heap[w.heap.size]? = some (.cells #[.int .u8 0,.slice none 0 0,.slice none 0 0,.int .i64 0,.bool false,.int .i64 0,.bool false,.bool false] 28 (0,0))):=by rw [Hid,hw6]; exact z0d HKR5.out
  have HKX6 : Hid (w6.heap[kx]? = some (.cells #[.int .u8 k1,.slice a1 n1 c1,.slice b1 m1 d1,.int .i64 lo1,.bool ls1,.int .i64 hi1,.bool hs1,.bool op1] 28 (0,0))):=by rw [Hid,hw6]; exact z06 hkx
  have hkxp : kx ≠ pb:=by omega
  have hkxz : w.heap.size < kx:=by have:=(Array.getElem?_eq_some_iff.1 HKR5.out).1; omega
  have HW6:=Lib.hid hw6.symm
  have HKXW:=Lib.hid hkx.symm
  have HX6 : Hid (XI (pN w4.heap.size) w6 x (.agg #[.int .u8 k1,.slice a1 n1 c1,.slice b1 m1 d1,.int .i64 lo1,.bool ls1,.int .i64 hi1,.bool hs1,.bool op1])):=by
   rw [Hid,hw6]
   exact hf.go ⟨by simp,fun b hb hpn => ⟨hpn,Lib.alloc_old _ _ _ hb⟩⟩
  have hle:=hs2.1.le
  by_cases hlt : nx1 < L.length
  ·have hltI : ((nx1 : Nat) : Int) < ((L.length : Nat) : Int):=by omega
   obtain ⟨pl,hpl⟩ : ∃ pl,pl = z05 (z01 L s.size nx1):=⟨_,rfl⟩
   have HPI : Hid (∀ W,ParseIs names s W noX pl 170):=fun W => .wrong HQ.out HC.out 170 pl (by
    rw [HALL2.out,hr]; unfold endR; try dsimp only
    rw [z0a,if_pos (by omega),hpl])
   have HFL:=Lib.hid (z2z pb tb L s.size nx1 (0 : Nat) 0 170 w6 HS6.out.1)
   rw [← hpl] at HFL
   clear hs2 ho hf hr hw6 hkx hpl
   go_upto_region 8 with fail
   rw [HW6.out,HKXW.out]
   clear HW6 HKXW
   obtain ⟨ra,rcap,hblk,_⟩:=HS6.out.1.blk
   have p2:=Lib.cell_of_heap hblk 2
   simp only [List.getElem?_toArray,List.getElem?_cons_zero,List.getElem?_cons_succ] at p2
   clear hblk
   go_wp2_with fail
   refine HFL.out.mono ?_
   rintro e w7 ⟨rfl,h7,hb7⟩
   have HS7 : Hid (Same pb tb w4 w7 L s.size nx1 (0 : Nat) 170 pl):=RP.same HS6.out ⟨h7,hb7⟩
   have HB7:=Lib.hid (bt_below hb7 HB6.out (by have:=HB6.out.size; omega) (by omega))
   have HKR7:=Lib.hid (hb7.at HKR6.out (by omega))
   clear h7 hb7
   have hpbk:=HS7.out.1.blk
   obtain ⟨ra,rcap,hblk,_⟩:=hpbk
   have p4:=Lib.cell_of_heap hblk 4
   have p5:=Lib.cell_of_heap hblk 5
   simp only [List.getElem?_toArray,List.getElem?_cons_zero,List.getElem?_cons_succ] at p4 p5
   have hltp:=HS7.out.1.lt
   clear hblk
   have hkr:=HKR7.out
   obtain ⟨xe0,xe1,xe2,xe3,xe4,xe5,xe6,xe7,xf0,xf1,xf2,xf3,xf4,xf5,xf6,xf7⟩:=cf8 hkr
   have hltz:=(Array.getElem?_eq_some_iff.1 hkr).1
   have HAT : Hid ((set8 w7 w.heap.size (.int .u8 0) (.slice none 0 0) (.slice none 0 0) (.int .i64 0) (.bool false) (.int .i64 0) (.bool false) (.bool false)).drew.heap[w.heap.size]? = some (.cells #[.int .u8 0,.slice none 0 0,.slice none 0 0,.int .i64 0,.bool false,.int .i64 0,.bool false,.bool false] 28 (0,0))):=drew_at (z0c hkr _ _ _ _ _ _ _ _ )
   have HOUT : Hid ((z3p names s w) (.returned (.tuple #[.agg #[.int .u8 0,.slice none 0 0,.slice none 0 0,.int .i64 0,.bool false,.int .i64 0,.bool false,.bool false],.int .i64 pl,.int .i64 170])) (set8 w7 w.heap.size (.int .u8 0) (.slice none 0 0) (.slice none 0 0) (.int .i64 0) (.bool false) (.int .i64 0) (.bool false) (.bool false)).drew):=⟨_,_,_,rfl,HPI.out _,(z30 HB7.out (Nat.le_refl _) _ _ _ _ _ _ _ _ ).drew⟩
   clear hkr
   go_wp2_with fail
   go_region_law (fail)
   all_goals
    go_wp2_with fail
    simp only [Act.put,List.getElem_toArray,List.getElem_cons_succ,List.getElem_cons_zero,List.setIfInBounds_toArray,List.set_cons_zero,List.set_cons_succ]
    refine bodyPost_ret (z1w rfl rfl rfl HAT.out) rfl ?_
    exact HOUT.out
  ·have hltI : ¬ ((nx1 : Nat) : Int) < ((L.length : Nat) : Int):=by omega
   have HRX:=Lib.hid HX6.out.real
   obtain ⟨m,n,t,ht,hx⟩:=HX6.out.real
   have HAL : Hid (allR (cutR s).1 s.size = .ok (toX n t)):=by
    rw [Hid,HALL2.out,hr]; unfold endR; try dsimp only
    rw [z0a,if_neg (by omega),ht]
   have hnd:=parsed_nodes HAL.out
   have hll:=cutR_len HC.out
   have HCK:=Lib.hid (check39_any names _ (fun s h => Nat.le_trans (HS.out s h) (by omega)) m n t _ w6 (by omega) (HNR.out.up HB6.out HB6.out.size) hx)
   have HXR:=Lib.hid hx
   obtain ⟨cd,hcd⟩ : ∃ cd,cd = z2o names n t:=⟨_,rfl⟩
   rw [← hcd] at HCK
   have HCD:=Lib.hid hcd
   clear hs2 ho hf hr hw6 hkx hx hnd hcd
   go_upto_region 8 with fail
   rw [HW6.out,HKXW.out]
   clear HW6 HKXW
   obtain ⟨ra,rcap,hblk,_⟩:=HS6.out.1.blk
   have p2:=Lib.cell_of_heap hblk 2
   have p4:=Lib.cell_of_heap hblk 4
   simp only [List.getElem?_toArray,List.getElem?_cons_zero,List.getElem?_cons_succ] at p2 p4
   have hltp:=HS6.out.1.lt
   have hk6:=HKX6.out
   obtain ⟨xg0,xg1,xg2,xg3,xg4,xg5,xg6,xg7⟩:=cc8 hk6
   have hltk:=(Array.getElem?_eq_some_iff.1 hk6).1
   clear hblk hk6
   go_wp2_with fail
   refine HCK.out.mono ?_
   rintro e w7 ⟨rfl,hb7⟩
   have HB7:=Lib.hid (HB6.out.trans (hb7.mono HB6.out.size))
   have HKR7:=Lib.hid ((hb7.block _ (Array.getElem?_eq_some_iff.1 HKR6.out).1).trans HKR6.out)
   have HKX7:=Lib.hid ((hb7.block _ (Array.getElem?_eq_some_iff.1 HKX6.out).1).trans HKX6.out)
   have HZ7:=Lib.hid hb7
   clear hb7 p2 p4 xg0 xg1 xg2 xg3 xg4 xg5 xg6 xg7
   by_cases hc0 : cd = 0
   ·subst hc0
    have hkr:=HKR7.out
    have hkx7:=HKX7.out
    obtain ⟨xd0,xd1,xd2,xd3,xd4,xd5,xd6,xd7⟩:=cc8 hkx7
    have hltk7:=(Array.getElem?_eq_some_iff.1 hkx7).1
    clear hkx7
    obtain ⟨xe0,xe1,xe2,xe3,xe4,xe5,xe6,xe7,xf0,xf1,xf2,xf3,xf4,xf5,xf6,xf7⟩:=cf8 hkr
    have hltz:=(Array.getElem?_eq_some_iff.1 hkr).1
    have HAT : Hid ((set8 w7 w.heap.size (.int .u8 k1) (.slice a1 n1 c1) (.slice b1 m1 d1) (.int .i64 lo1) (.bool ls1) (.int .i64 hi1) (.bool hs1) (.bool op1)).heap[w.heap.size]? = some (.cells #[.int .u8 k1,.slice a1 n1 c1,.slice b1 m1 d1,.int .i64 lo1,.bool ls1,.int .i64 hi1,.bool hs1,.bool op1] 28 (0,0))):=z0c hkr _ _ _ _ _ _ _ _ 
    have HOUT : Hid ((z3p names s w) (.returned (.tuple #[.agg #[.int .u8 k1,.slice a1 n1 c1,.slice b1 m1 d1,.int .i64 lo1,.bool ls1,.int .i64 hi1,.bool hs1,.bool op1],.int .i64 0,.int .i64 0])) (set8 w7 w.heap.size (.int .u8 k1) (.slice a1 n1 c1) (.slice b1 m1 d1) (.int .i64 lo1) (.bool ls1) (.int .i64 hi1) (.bool hs1) (.bool op1))):=by
     refine ⟨_,_,_,rfl,?_,z30 HB7.out (Nat.le_refl _) _ _ _ _ _ _ _ _ ⟩
     have hx7 : XI (pN w4.heap.size) (set8 w7 w.heap.size (.int .u8 k1) (.slice a1 n1 c1) (.slice b1 m1 d1) (.int .i64 lo1) (.bool ls1) (.int .i64 hi1) (.bool hs1) (.bool op1)) x (.agg #[.int .u8 k1,.slice a1 n1 c1,.slice b1 m1 d1,.int .i64 lo1,.bool ls1,.int .i64 hi1,.bool hs1,.bool op1]):=by
      refine HX6.out.go ⟨by rw [z0b]; exact HZ7.out.size,fun b hb hpn => ⟨hpn,?_⟩⟩
      have h4 : w4.heap.size ≤ b:=of_decide_eq_true hpn
      have h5:=(Array.getElem?_eq_some_iff.1 HKR4.out).1
      exact (z03 _ _ _ _ _ _ _ _ _ _ _ (by omega)).trans (HZ7.out.block b hb)
     obtain ⟨m',n',t',ht',hx'⟩:=hx7.real
     have he : allR (cutR s).1 s.size = .ok (toX n' t'):=by rw [HAL.out,ht',ht]
     exact .ok HQ.out HC.out m' n' t' he ((z3m names (ht'.trans ht.symm)).trans HCD.out.symm) _ hx'
    clear hkr
    go_wp2_with fail
    refine bodyPost_ret (z1w rfl rfl rfl HAT.out) rfl ?_
    exact HOUT.out
   ·have q : (cd != 0) = true:=by simpa using hc0
    have hkr:=HKR7.out
    obtain ⟨xe0,xe1,xe2,xe3,xe4,xe5,xe6,xe7,xf0,xf1,xf2,xf3,xf4,xf5,xf6,xf7⟩:=cf8 hkr
    have hltz:=(Array.getElem?_eq_some_iff.1 hkr).1
    have HAT : Hid ((set8 w7 w.heap.size (.int .u8 0) (.slice none 0 0) (.slice none 0 0) (.int .i64 0) (.bool false) (.int .i64 0) (.bool false) (.bool false)).heap[w.heap.size]? = some (.cells #[.int .u8 0,.slice none 0 0,.slice none 0 0,.int .i64 0,.bool false,.int .i64 0,.bool false,.bool false] 28 (0,0))):=z0c hkr _ _ _ _ _ _ _ _ 
    have HOUT : Hid ((z3p names s w) (.returned (.tuple #[.agg #[.int .u8 0,.slice none 0 0,.slice none 0 0,.int .i64 0,.bool false,.int .i64 0,.bool false,.bool false],.int .i64 0,.int .i64 cd])) (set8 w7 w.heap.size (.int .u8 0) (.slice none 0 0) (.slice none 0 0) (.int .i64 0) (.bool false) (.int .i64 0) (.bool false) (.bool false))):=by
     refine ⟨_,_,_,rfl,?_,z30 HB7.out (Nat.le_refl _) _ _ _ _ _ _ _ _ ⟩
     have:=ParseIs.check (w:=(set8 w7 w.heap.size (.int .u8 0) (.slice none 0 0) (.slice none 0 0) (.int .i64 0) (.bool false) (.int .i64 0) (.bool false) (.bool false))) HQ.out HC.out m n t HAL.out (by rw [← HCD.out]; exact hc0)
     rw [← HCD.out] at this
     exact this
    clear hc0
    clear hkr
    go_wp2_with fail
    refine bodyPost_ret (z1w rfl rfl rfl HAT.out) rfl ?_
    exact HOUT.out
theorem parse24_any (names : List ByteArray) (nv : Value) (hs : ∀ s ∈ names,s.size ≤ 1048576) (s : ByteArray) (w : World) (hn : NRep w w.heap.size nv names) :
 Calls Tryz.prog 24 #[nv,.string s] w (z3p names s w):=by
 by_cases hq : z15 names = 0
 ·by_cases hc : (cutR s).2.2 = 0
  ·exact parse24_good names nv hs s w hn hq hc
  ·exact parse24_cut names nv hs s w hn hq hc
 ·exact parse24_names names nv hs s w hn hq
end Go.Proofs.YtpgdplmndnopbaaGreatDoor
