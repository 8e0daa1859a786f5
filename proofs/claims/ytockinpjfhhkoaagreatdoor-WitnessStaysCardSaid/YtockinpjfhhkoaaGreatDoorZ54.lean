/- The law WitnessStays, walked. (Printed by gen_std.py.) -/
import Derived.Deep.RegionHeld
import Derived.Deep.Cut
import Derived.LoopTactic
import Derived.Test.YtockinpjfhhkoaaGreatDoorZ45
import Derived.Test.YtockinpjfhhkoaaGreatDoorZ48
import Derived.Test.YtockinpjfhhkoaaGreatDoorZ53
import Derived.Test.YtockinpjfhhkoaaGreatDoorZ24
import Derived.Test.YtockinpjfhhkoaaGreatDoorZ41
set_option maxRecDepth 100000
set_option maxHeartbeats 16000000
open Go.Lib renaming cell_of_heap → Jc, hid → Jh
open Go.RowKit.Below renaming heap_alloc → Jb
namespace Go.Proofs.YtockinpjfhhkoaaGreatDoor
open Go.RowKit
theorem z7a (names : List ByteArray) (nv lv mv : Value) (hns : ∀ s ∈ names,s.size ≤ 281474976710656) {m d : Nat} (x : XT m d) (xv : Value) (l more : List (Int × Int)) (a p b q z : Int) {n : Nat} (t : PT n) (wv : Value) (w : World)
 (hr : Rdy w) (hn : NRep w w.heap.size nv names) (hx : XRep w w.heap.size m d x xv) (hl : Segs w w.heap.size lv l) (hmo : Segs w w.heap.size mv more) (hp : PRep w w.heap.size n t wv) (hrt : rngT n t) (ia : in64 a) (ib : in64 b) :
 Calls Tryz.prog 11 #[nv,xv,lv,mv,.agg #[.int .i64 a,.int .i64 p,.int .i64 b,.int .i64 q],wv,.int .i64 z] w fun e w' => e = .returned (.bool true) ∧ Below w.heap.size w w':=by
 obtain ⟨kx,a1x,n1x,c1x,a2x,n2x,c2x,lox,lsx,hix,hsx,opx,rfl⟩:=hx.shape
 obtain ⟨wk,sd,a3,l3,c3,a4,l4,c4,rfl⟩:=hp.shape
 obtain ⟨na,nc,rfl,_⟩:=id hn
 obtain ⟨la,lc,rfl,hlm,_⟩:=id hl
 obtain ⟨ma,mc,rfl,hmm,_⟩:=id hmo
 obtain ⟨WB,hWWB⟩ : ∃ WB,WB = ((w.alloc (.cells #[.int .u8 kx,.slice a1x n1x c1x,.slice a2x n2x c2x,.int .i64 lox,.bool lsx,.int .i64 hix,.bool hsx,.bool opx] 47)).alloc (.cells #[.int .i64 a,.int .i64 p,.int .i64 b,.int .i64 q] 52)).alloc (.cells #[.int .u8 wk,.int .u8 sd,.slice a3 l3 c3,.slice a4 l4 c4] 56):=⟨_,rfl⟩
 have hbWB : Below w.heap.size w WB:=by rw [hWWB]; exact ((z08 _ _).alloc (by simp <;> omega) _).alloc (by simp <;> omega) _
 have hx0 : WB.heap[w.heap.size]? = some (.cells #[.int .u8 kx,.slice a1x n1x c1x,.slice a2x n2x c2x,.int .i64 lox,.bool lsx,.int .i64 hix,.bool hsx,.bool opx] 47 (0,0)):=by rw [hWWB]; exact (Jb _ _ _ (by simp <;> omega)).trans ((Jb _ _ _ (by simp <;> omega)).trans (z01 rfl))
 have hx1 : WB.heap[w.heap.size + 1]? = some (.cells #[.int .i64 a,.int .i64 p,.int .i64 b,.int .i64 q] 52 (0,0)):=by rw [hWWB]; exact (Jb _ _ _ (by simp <;> omega)).trans (z01 (by simp))
 have hx2 : WB.heap[w.heap.size + 1 + 1]? = some (.cells #[.int .u8 wk,.int .u8 sd,.slice a3 l3 c3,.slice a4 l4 c4] 56 (0,0)):=by rw [hWWB]; exact z01 (by simp)
 have HX : Hid (∀ W,Below WB.heap.size WB W → W.heap[w.heap.size]? = some (.cells #[.int .u8 kx,.slice a1x n1x c1x,.slice a2x n2x c2x,.int .i64 lox,.bool lsx,.int .i64 hix,.bool hsx,.bool opx] 47 (0,0)) ∧ W.heap[w.heap.size + 1]? = some (.cells #[.int .i64 a,.int .i64 p,.int .i64 b,.int .i64 q] 52 (0,0)) ∧ W.heap[w.heap.size + 1 + 1]? = some (.cells #[.int .u8 wk,.int .u8 sd,.slice a3 l3 c3,.slice a4 l4 c4] 56 (0,0))):=fun W hW => ⟨(hW.block _ (Array.getElem?_eq_some_iff.1 hx0).1).trans hx0,(hW.block _ (Array.getElem?_eq_some_iff.1 hx1).1).trans hx1,(hW.block _ (Array.getElem?_eq_some_iff.1 hx2).1).trans hx2⟩
 have HF : Hid (∀ W,Below WB.heap.size WB W → W.cell? ⟨w.heap.size,0,none⟩ = some (.int .u8 kx) ∧ W.cell? ⟨w.heap.size,1,none⟩ = some (.slice a1x n1x c1x) ∧ W.cell? ⟨w.heap.size,2,none⟩ = some (.slice a2x n2x c2x) ∧ W.cell? ⟨w.heap.size,3,none⟩ = some (.int .i64 lox) ∧ W.cell? ⟨w.heap.size,4,none⟩ = some (.bool lsx) ∧ W.cell? ⟨w.heap.size,5,none⟩ = some (.int .i64 hix) ∧ W.cell? ⟨w.heap.size,6,none⟩ = some (.bool hsx) ∧ W.cell? ⟨w.heap.size,7,none⟩ = some (.bool opx) ∧ W.cell? ⟨w.heap.size + 1,0,none⟩ = some (.int .i64 a) ∧ W.cell? ⟨w.heap.size + 1,1,none⟩ = some (.int .i64 p) ∧ W.cell? ⟨w.heap.size + 1,2,none⟩ = some (.int .i64 b) ∧ W.cell? ⟨w.heap.size + 1,3,none⟩ = some (.int .i64 q) ∧ W.cell? ⟨w.heap.size + 1 + 1,0,none⟩ = some (.int .u8 wk) ∧ W.cell? ⟨w.heap.size + 1 + 1,1,none⟩ = some (.int .u8 sd) ∧ W.cell? ⟨w.heap.size + 1 + 1,2,none⟩ = some (.slice a3 l3 c3) ∧ W.cell? ⟨w.heap.size + 1 + 1,3,none⟩ = some (.slice a4 l4 c4) ∧ w.heap.size < W.heap.size ∧ w.heap.size + 1 < W.heap.size ∧ w.heap.size + 1 + 1 < W.heap.size):=by
  intro W hW
  obtain ⟨k0,k1,k2⟩:=HX.out W hW
  exact ⟨Jc k0 0,Jc k0 1,Jc k0 2,Jc k0 3,Jc k0 4,Jc k0 5,Jc k0 6,Jc k0 7,Jc k1 0,Jc k1 1,Jc k1 2,Jc k1 3,Jc k2 0,Jc k2 1,Jc k2 2,Jc k2 3,(Array.getElem?_eq_some_iff.1 k0).1,(Array.getElem?_eq_some_iff.1 k1).1,(Array.getElem?_eq_some_iff.1 k2).1⟩
 have HBB:=Jh hbWB
 have HWB:=Jh hWWB.symm
 clear hWWB hbWB hx0 hx1 hx2
 have HENV : Hid (∀ W,Below WB.heap.size WB W → Rdy W ∧ NRep W W.heap.size (.slice na names.length nc) names ∧ XRep W W.heap.size m d x (.agg #[.int .u8 kx,.slice a1x n1x c1x,.slice a2x n2x c2x,.int .i64 lox,.bool lsx,.int .i64 hix,.bool hsx,.bool opx]) ∧ Segs W W.heap.size (.slice la l.length lc) l ∧ Segs W W.heap.size (.slice ma more.length mc) more ∧ PRep W W.heap.size n t (.agg #[.int .u8 wk,.int .u8 sd,.slice a3 l3 c3,.slice a4 l4 c4])):=fun W hW => by
  have h:=HBB.out.trans (hW.mono HBB.out.size)
  exact ⟨hr.below h,hn.up h h.size,hx.up h h.size,Segs.mono h.size (Segs.below h hl),Segs.mono h.size (Segs.below h hmo),hp.up h h.size⟩
 have HNS0:=Jh hns
 have HRT:=Jh hrt
 have HIA:=Jh ia
 have HIB:=Jh ib
 have HLM:=Jh hlm
 have HMM:=Jh hmm
 have HRL : Hid (∀ s ∈ l,InR s):=hl.inR
 have HRM : Hid (∀ s ∈ more,InR s):=hmo.inR
 clear hr hn hx hl hmo hp hns hrt ia ib hlm hmm
 go_enter Tryz.func11,Tryz.ntmps11
 go_upto_region 1 with fail
 rw [HWB.out]
 clear HWB
 go_upto_region 2 with fail
 refine (z5d WB (HENV.out _ (Below.refl _ _)).1).mono ?_
 rintro e w1 ⟨rfl,hb1⟩
 have HB1:=Jh hb1
 clear hb1
 obtain ⟨xf0,xf1,xf2,xf3,xf4,xf5,xf6,xf7,xf8,xf9,xf10,xf11,xf12,xf13,xf14,xf15,xf16,xf17,xf18⟩:=HF.out w1 HB1.out
 go_upto_region 3 with fail
 clear xf0 xf1 xf2 xf3 xf4 xf5 xf6 xf7 xf8 xf9 xf10 xf11 xf12 xf13 xf14 xf15 xf16 xf17 xf18
 have hE:=HENV.out w1 HB1.out
 refine (z3z m d x _ w1 hE.2.2.1).mono ?_
 obtain ⟨gx,hgx⟩ : ∃ g,decide (2000 < z3i d x 2000) = g:=⟨_,rfl⟩
 rw [hgx]
 rintro e w2 ⟨rfl,hb2⟩
 have HB2 : Hid (Below WB.heap.size WB w2):=belS HB1.out hb2
 have Hgx:=Jh hgx
 clear hb2 hE hgx
 obtain ⟨xf0,xf1,xf2,xf3,xf4,xf5,xf6,xf7,xf8,xf9,xf10,xf11,xf12,xf13,xf14,xf15,xf16,xf17,xf18⟩:=HF.out w2 HB2.out
 rcases Bool.eq_false_or_eq_true gx with rfl | rfl
 ·skip
  go_wp2_with fail
  all_goals go_ret
  all_goals exact ⟨rfl,HBB.out.trans (HB2.out.mono HBB.out.size)⟩
 go_upto_region 3 with fail
 clear xf0 xf1 xf2 xf3 xf4 xf5 xf6 xf7 xf8 xf9 xf10 xf11 xf12 xf13 xf14 xf15 xf16 xf17 xf18
 have hE:=HENV.out w2 HB2.out
 refine ((z3j names _ w2 hE.2.1).mono fun e w' h => (⟨h.1,h.2 ▸ Below.refl _ _⟩ : e = .returned (.bool (z5r names)) ∧ Below w2.heap.size w2 w')).mono ?_
 obtain ⟨gn,hgn⟩ : ∃ g,z5r names = g:=⟨_,rfl⟩
 rw [hgn]
 rintro e w3 ⟨rfl,hb3⟩
 have HB3 : Hid (Below WB.heap.size WB w3):=belS HB2.out hb3
 have Hgn:=Jh hgn
 clear hb3 hE hgn
 obtain ⟨xf0,xf1,xf2,xf3,xf4,xf5,xf6,xf7,xf8,xf9,xf10,xf11,xf12,xf13,xf14,xf15,xf16,xf17,xf18⟩:=HF.out w3 HB3.out
 rcases Bool.eq_false_or_eq_true gn with rfl | rfl
 ·skip
  go_wp2_with fail
  all_goals go_ret
  all_goals exact ⟨rfl,HBB.out.trans (HB3.out.mono HBB.out.size)⟩
 rcases Bool.eq_false_or_eq_true (decide ((500 : Int) < (l.length : Int))) with dl | dl
 ·skip
  go_wp2_with fail
  all_goals go_ret
  all_goals exact ⟨rfl,HBB.out.trans (HB3.out.mono HBB.out.size)⟩
 rcases Bool.eq_false_or_eq_true (decide ((500 : Int) < (more.length : Int))) with dm | dm
 ·skip
  go_wp2_with fail
  all_goals go_ret
  all_goals exact ⟨rfl,HBB.out.trans (HB3.out.mono HBB.out.size)⟩
 go_upto_region 3 with fail
 clear xf0 xf1 xf2 xf3 xf4 xf5 xf6 xf7 xf8 xf9 xf10 xf11 xf12 xf13 xf14 xf15 xf16 xf17 xf18
 have HL5 : Hid (l.length ≤ 500):=by have:=of_decide_eq_false dl; show l.length ≤ 500; omega
 have HM5 : Hid (more.length ≤ 500):=by have:=of_decide_eq_false dm; show more.length ≤ 500; omega
 clear dl dm
 have hE:=HENV.out w3 HB3.out
 refine (z7s n t _ w3 w3.heap.size hE.2.2.2.2.2 (Nat.le_refl _)).mono ?_
 obtain ⟨gw,hgw⟩ : ∃ g,decide (z18 n t 6000 < 0) = g:=⟨_,rfl⟩
 rw [hgw]
 rintro e w4 ⟨rfl,hb4⟩
 have HB4 : Hid (Below WB.heap.size WB w4):=belS HB3.out hb4
 have Hgw:=Jh hgw
 clear hb4 hE hgw
 obtain ⟨xf0,xf1,xf2,xf3,xf4,xf5,xf6,xf7,xf8,xf9,xf10,xf11,xf12,xf13,xf14,xf15,xf16,xf17,xf18⟩:=HF.out w4 HB4.out
 rcases Bool.eq_false_or_eq_true gw with rfl | rfl
 ·skip
  go_wp2_with fail
  all_goals go_ret
  all_goals exact ⟨rfl,HBB.out.trans (HB4.out.mono HBB.out.size)⟩
 have HOK : Hid (okT n t):=z7j HRT.out (of_decide_eq_false Hgw.out)
 have HNS:=Jh (z8z Hgn.out HNS0.out)
 clear Hgn Hgw Hgx HRT HNS0
 go_upto_region 5 with fail
 clear xf0 xf1 xf2 xf3 xf4 xf5 xf6 xf7 xf8 xf9 xf10 xf11 xf12 xf13 xf14 xf15 xf16 xf17 xf18
 have hE:=HENV.out w4 HB4.out
 refine (z03 names _ _ HNS.out x _ l a p b q t _ w4 hE.1 hE.2.1 hE.2.2.1 hE.2.2.2.1 hE.2.2.2.2.2 HOK.out HIA.out HIB.out).mono ?_
 obtain ⟨ans,hans⟩ : ∃ r,z0a names d x l (a,p) (b,q) n t = r:=⟨_,rfl⟩
 rw [hans]
 obtain ⟨rs,es⟩:=ans
 have HAs:=Jh hans
 clear hans
 dsimp only
 rintro e w5 ⟨rfl,hbx⟩
 have HB5 : Hid (Below WB.heap.size WB w5):=belS HB4.out hbx
 clear hbx hE
 obtain ⟨xf0,xf1,xf2,xf3,xf4,xf5,xf6,xf7,xf8,xf9,xf10,xf11,xf12,xf13,xf14,xf15,xf16,xf17,xf18⟩:=HF.out w5 HB5.out
 by_cases h0 : es = 0
 rotate_left
 ·have he:=wCheck_err HAs.out h0
  subst he
  have d0 : (es != 0) = true:=by simpa using h0
  clear h0
  go_wp2_with fail
  all_goals go_ret
  all_goals exact ⟨rfl,HBB.out.trans (HB5.out.mono HBB.out.size)⟩
 subst h0
 go_upto_region 8 with fail
 clear xf0 xf1 xf2 xf3 xf4 xf5 xf6 xf7 xf8 xf9 xf10 xf11 xf12 xf13 xf14 xf15 xf16 xf17 xf18
 have HF0:=Jh (z15 HAs.out)
 have hE:=HENV.out w5 HB5.out
 refine (z9y (names.length : Int) _ l w5 hE.2.2.2.1).mono ?_
 rw [HF0.out.2.1]
 obtain ⟨lg,hlg⟩ : ∃ z,z6h 0 l = z:=⟨_,rfl⟩
 rw [hlg]
 rintro e w6 ⟨rfl,hbx⟩
 have HB6 : Hid (Below WB.heap.size WB w6):=belS HB5.out hbx
 have HLG:=Jh hlg
 clear hbx hE hlg
 obtain ⟨xf0,xf1,xf2,xf3,xf4,xf5,xf6,xf7,xf8,xf9,xf10,xf11,xf12,xf13,xf14,xf15,xf16,xf17,xf18⟩:=HF.out w6 HB6.out
 go_upto_region 9 with fail
 obtain ⟨ft,hft⟩ : ∃ z,a / p = z:=⟨_,rfl⟩
 obtain ⟨wt,hwt⟩ : ∃ z,(a % p == 0) = z:=⟨_,rfl⟩
 obtain ⟨fu,hfu⟩ : ∃ z,b / q = z:=⟨_,rfl⟩
 obtain ⟨wu,hwu⟩ : ∃ z,(b % q == 0) = z:=⟨_,rfl⟩
 refine (zal a p w6 HIA.out HF0.out.2.2.1).mono ?_
 rw [hft,hwt]
 rintro e w7 ⟨rfl,hbx⟩
 have HB7 : Hid (Below WB.heap.size WB w7):=belS HB6.out hbx
 have HFT:=Jh hft
 have HFU:=Jh hfu
 have HWU:=Jh hwu
 clear hbx hft hwt hfu hwu
 clear xf0 xf1 xf2 xf3 xf4 xf5 xf6 xf7 xf8 xf9 xf10 xf11 xf12 xf13 xf14 xf15 xf16 xf17 xf18
 obtain ⟨xf0,xf1,xf2,xf3,xf4,xf5,xf6,xf7,xf8,xf9,xf10,xf11,xf12,xf13,xf14,xf15,xf16,xf17,xf18⟩:=HF.out w7 HB7.out
 go_upto_region 10 with fail
 refine (zal b q w7 HIB.out HF0.out.2.2.2.1).mono ?_
 rw [HFU.out,HWU.out]
 rintro e w8 ⟨rfl,hbx⟩
 have HB8 : Hid (Below WB.heap.size WB w8):=belS HB7.out hbx
 clear hbx
 clear xf0 xf1 xf2 xf3 xf4 xf5 xf6 xf7 xf8 xf9 xf10 xf11 xf12 xf13 xf14 xf15 xf16 xf17 xf18
 rcases Bool.eq_false_or_eq_true rs with rfl | rfl
 ·have HW:=Jh (stays_within HRL.out HAs.out)
  obtain ⟨g1,g2,g3⟩:=HW.out
  dsimp only at g1 g2 g3
  rw [HFT.out] at g1
  rw [HLG.out,HFU.out] at g2 g3
  have HG3 : Hid (fu = lg → wu = true):=fun h => by rw [← HWU.out,g3 h]; rfl
  have hn1 : ¬ ft < 0:=by omega
  have hn2 : ¬ lg < fu:=by omega
  clear g1 g2 g3 HW HFT HFU HWU
  by_cases hq : fu = lg
  ·have hwu:=HG3.out hq
   subst hwu
   clear HG3
   subst hq
   obtain ⟨xf0,xf1,xf2,xf3,xf4,xf5,xf6,xf7,xf8,xf9,xf10,xf11,xf12,xf13,xf14,xf15,xf16,xf17,xf18⟩:=HF.out w8 HB8.out
   go_upto_region 13 with fail
   clear xf0 xf1 xf2 xf3 xf4 xf5 xf6 xf7 xf8 xf9 xf10 xf11 xf12 xf13 xf14 xf15 xf16 xf17 xf18
   have hE:=HENV.out w8 HB8.out
   refine (zad (names.length : Int) _ l w8 hE.2.2.2.1).mono ?_
   rw [HF0.out.2.1]
   rintro e w9 ⟨⟨vm,rfl,hom⟩,hbx⟩
   have HB9 : Hid (Below WB.heap.size WB w9):=belS HB8.out hbx
   have HOM:=Jh (hom.segs (by have:=z54 0 l; have:=HL5.out; omega) (z5o HRL.out))
   clear hbx hE hom
   obtain ⟨xf0,xf1,xf2,xf3,xf4,xf5,xf6,xf7,xf8,xf9,xf10,xf11,xf12,xf13,xf14,xf15,xf16,xf17,xf18⟩:=HF.out w9 HB9.out
   go_upto_region 14 with fail
   clear xf0 xf1 xf2 xf3 xf4 xf5 xf6 xf7 xf8 xf9 xf10 xf11 xf12 xf13 xf14 xf15 xf16 xf17 xf18
   have hE:=HENV.out w9 HB9.out
   refine (z03 names _ _ HNS.out x _ (z4m 0 l) a p b q t _ w9 hE.1 hE.2.1 hE.2.2.1 HOM.out hE.2.2.2.2.2 HOK.out HIA.out HIB.out).mono ?_
   rw [z5i HRL.out HAs.out]
   dsimp only
   rintro e w10 ⟨rfl,hbx⟩
   have HB10 : Hid (Below WB.heap.size WB w10):=belS HB9.out hbx
   clear hbx hE
   obtain ⟨xf0,xf1,xf2,xf3,xf4,xf5,xf6,xf7,xf8,xf9,xf10,xf11,xf12,xf13,xf14,xf15,xf16,xf17,xf18⟩:=HF.out w10 HB10.out
   go_upto_region 17 with fail
   clear xf0 xf1 xf2 xf3 xf4 xf5 xf6 xf7 xf8 xf9 xf10 xf11 xf12 xf13 xf14 xf15 xf16 xf17 xf18
   clear HOM
   have hE:=HENV.out w10 HB10.out
   refine (cut_any (names.length : Int) z _ l w10 hE.2.2.2.1).mono ?_
   rw [HF0.out.2.1]
   rintro e w11 ⟨⟨vc,rfl,hoc⟩,hbx⟩
   have HB11 : Hid (Below WB.heap.size WB w11):=belS HB10.out hbx
   have HRC : Hid (∀ s ∈ (cutA 0 l z).1,InR s):=z94 HRL.out
   have HOC:=Jh (hoc.segs (by have:=z6z 0 z l; have:=HL5.out; omega) HRC.out)
   have HKC : Hid ((cutA 0 l z).2 = 0 → z0a names d x (cutA 0 l z).1 (a,p) (b,q) n t = (true,0)):=za5 HRL.out HRC.out HAs.out
   obtain ⟨ks,hks⟩ : ∃ y,cutA 0 l z = y:=⟨_,rfl⟩
   rw [hks] at HOC HKC ⊢
   obtain ⟨cs,kc⟩:=ks
   dsimp only at HOC HKC ⊢
   clear hbx hE hoc hks HRC
   obtain ⟨xf0,xf1,xf2,xf3,xf4,xf5,xf6,xf7,xf8,xf9,xf10,xf11,xf12,xf13,xf14,xf15,xf16,xf17,xf18⟩:=HF.out w11 HB11.out
   go_upto_region 18 with fail
   clear xf0 xf1 xf2 xf3 xf4 xf5 xf6 xf7 xf8 xf9 xf10 xf11 xf12 xf13 xf14 xf15 xf16 xf17 xf18
   have hE:=HENV.out w11 HB11.out
   refine (z03 names _ _ HNS.out x _ cs a p b q t _ w11 hE.1 hE.2.1 hE.2.2.1 HOC.out hE.2.2.2.2.2 HOK.out HIA.out HIB.out).mono ?_
   obtain ⟨ans,hans⟩ : ∃ r,z0a names d x cs (a,p) (b,q) n t = r:=⟨_,rfl⟩
   rw [hans]
   obtain ⟨rc,ec⟩:=ans
   have HAc:=Jh hans
   clear hans
   dsimp only
   rintro e w12 ⟨rfl,hbx⟩
   have HB12 : Hid (Below WB.heap.size WB w12):=belS HB11.out hbx
   clear hbx hE
   obtain ⟨xf0,xf1,xf2,xf3,xf4,xf5,xf6,xf7,xf8,xf9,xf10,xf11,xf12,xf13,xf14,xf15,xf16,xf17,xf18⟩:=HF.out w12 HB12.out
   by_cases h1 : kc = 0
   ·subst h1
    obtain ⟨q1,q2⟩:=Prod.mk.inj ((HKC.out rfl).symm.trans HAc.out)
    subst q1 q2
    clear HOC HKC HAc
    have hE:=HENV.out w12 HB12.out
    have HR1:=Jh (z2k w12 w12.heap.size (.slice none 0 0) _ [] l (World.ownsRow_nil _ _ _ _) (Nat.le_refl _) hE.2.2.2.1 (by have:=HL5.out; simp; omega))
    clear hE
    have HR2 : Hid (∀ W v,Below w12.heap.size w12 W → OwnS W w12.heap.size v ([] ++ l) → ∃ v' w',(Builtin.append_ #[48,48] 48 #[v,(.slice ma more.length mc)]).run Tryz.prog W = .ok v' w' ∧ OwnS w' w12.heap.size v' ([] ++ l ++ more) ∧ Below w12.heap.size W w'):=fun W v hb ho => z2k W w12.heap.size v _ ([] ++ l) more ho hb.size (HENV.out W (belS HB12.out hb)).2.2.2.2.1 (by have:=HL5.out; have:=HM5.out; simp; omega)
    go_upto_region 21 with (at_builtin; first | (refine z0h rfl _ _ 48 rfl _ _ rfl rfl _ HR1.out ?_; intro vq w13 hvw; obtain ⟨hoq,hbq⟩:=hvw) | (refine z0h rfl _ _ 48 rfl _ _ rfl rfl _ (HR2.out _ _ hbq hoq) ?_; intro vr w14 hvw; obtain ⟨hor,hbr⟩:=hvw))
    have HB13 : Hid (Below WB.heap.size WB w13):=belS HB12.out hbq
    have HB14 : Hid (Below WB.heap.size WB w14):=HB13.out.trans (hbr.mono HB12.out.size)
    have hra : ∀ s ∈ l ++ more,InR s:=fun s hs => (List.mem_append.1 hs).elim (HRL.out s) (HRM.out s)
    have HOR : Hid (Segs w14 w14.heap.size vr (l ++ more)):=OwnS.segs (B:=w12.heap.size) hor (by have:=HL5.out; have:=HM5.out; simp; omega) hra
    have HRA:=Jh hra
    clear hor hbr HR1 HR2 hra hoq hbq
    clear xf0 xf1 xf2 xf3 xf4 xf5 xf6 xf7 xf8 xf9 xf10 xf11 xf12 xf13 xf14 xf15 xf16 xf17 xf18
    obtain ⟨xf0,xf1,xf2,xf3,xf4,xf5,xf6,xf7,xf8,xf9,xf10,xf11,xf12,xf13,xf14,xf15,xf16,xf17,xf18⟩:=HF.out w14 HB14.out
    go_upto_region 22 with fail
    clear xf0 xf1 xf2 xf3 xf4 xf5 xf6 xf7 xf8 xf9 xf10 xf11 xf12 xf13 xf14 xf15 xf16 xf17 xf18
    have hE:=HENV.out w14 HB14.out
    refine (z03 names _ _ HNS.out x _ (l ++ more) a p b q t _ w14 hE.1 hE.2.1 hE.2.2.1 HOR.out hE.2.2.2.2.2 HOK.out HIA.out HIB.out).mono ?_
    obtain ⟨ans,hans⟩ : ∃ r,z0a names d x (l ++ more) (a,p) (b,q) n t = r:=⟨_,rfl⟩
    rw [hans]
    obtain ⟨rd,ed⟩:=ans
    have HAd:=Jh hans
    clear hans
    dsimp only
    rintro e w15 ⟨rfl,hbx⟩
    have HB15 : Hid (Below WB.heap.size WB w15):=belS HB14.out hbx
    clear hbx hE
    obtain ⟨xf0,xf1,xf2,xf3,xf4,xf5,xf6,xf7,xf8,xf9,xf10,xf11,xf12,xf13,xf14,xf15,xf16,xf17,xf18⟩:=HF.out w15 HB15.out
    by_cases h2 : ed = 0
    ·subst h2
     have hd:=z5z HRA.out HAs.out HAd.out
     subst hd
     go_wp2_with fail
     all_goals go_ret
     all_goals exact ⟨rfl,HBB.out.trans (HB15.out.mono HBB.out.size)⟩
    ·have d2 : (ed != 0) = true:=by simpa using h2
     clear h2
     go_wp2_with fail
     all_goals go_ret
     all_goals exact ⟨rfl,HBB.out.trans (HB15.out.mono HBB.out.size)⟩
   ·have d1 : (kc == 0) = false:=by simpa using h1
    clear h1
    clear HOC HKC HAc
    have hE:=HENV.out w12 HB12.out
    have HR1:=Jh (z2k w12 w12.heap.size (.slice none 0 0) _ [] l (World.ownsRow_nil _ _ _ _) (Nat.le_refl _) hE.2.2.2.1 (by have:=HL5.out; simp; omega))
    clear hE
    have HR2 : Hid (∀ W v,Below w12.heap.size w12 W → OwnS W w12.heap.size v ([] ++ l) → ∃ v' w',(Builtin.append_ #[48,48] 48 #[v,(.slice ma more.length mc)]).run Tryz.prog W = .ok v' w' ∧ OwnS w' w12.heap.size v' ([] ++ l ++ more) ∧ Below w12.heap.size W w'):=fun W v hb ho => z2k W w12.heap.size v _ ([] ++ l) more ho hb.size (HENV.out W (belS HB12.out hb)).2.2.2.2.1 (by have:=HL5.out; have:=HM5.out; simp; omega)
    go_upto_region 21 with (at_builtin; first | (refine z0h rfl _ _ 48 rfl _ _ rfl rfl _ HR1.out ?_; intro vq w13 hvw; obtain ⟨hoq,hbq⟩:=hvw) | (refine z0h rfl _ _ 48 rfl _ _ rfl rfl _ (HR2.out _ _ hbq hoq) ?_; intro vr w14 hvw; obtain ⟨hor,hbr⟩:=hvw))
    have HB13 : Hid (Below WB.heap.size WB w13):=belS HB12.out hbq
    have HB14 : Hid (Below WB.heap.size WB w14):=HB13.out.trans (hbr.mono HB12.out.size)
    have hra : ∀ s ∈ l ++ more,InR s:=fun s hs => (List.mem_append.1 hs).elim (HRL.out s) (HRM.out s)
    have HOR : Hid (Segs w14 w14.heap.size vr (l ++ more)):=OwnS.segs (B:=w12.heap.size) hor (by have:=HL5.out; have:=HM5.out; simp; omega) hra
    have HRA:=Jh hra
    clear hor hbr HR1 HR2 hra hoq hbq
    clear xf0 xf1 xf2 xf3 xf4 xf5 xf6 xf7 xf8 xf9 xf10 xf11 xf12 xf13 xf14 xf15 xf16 xf17 xf18
    obtain ⟨xf0,xf1,xf2,xf3,xf4,xf5,xf6,xf7,xf8,xf9,xf10,xf11,xf12,xf13,xf14,xf15,xf16,xf17,xf18⟩:=HF.out w14 HB14.out
    go_upto_region 22 with fail
    clear xf0 xf1 xf2 xf3 xf4 xf5 xf6 xf7 xf8 xf9 xf10 xf11 xf12 xf13 xf14 xf15 xf16 xf17 xf18
    have hE:=HENV.out w14 HB14.out
    refine (z03 names _ _ HNS.out x _ (l ++ more) a p b q t _ w14 hE.1 hE.2.1 hE.2.2.1 HOR.out hE.2.2.2.2.2 HOK.out HIA.out HIB.out).mono ?_
    obtain ⟨ans,hans⟩ : ∃ r,z0a names d x (l ++ more) (a,p) (b,q) n t = r:=⟨_,rfl⟩
    rw [hans]
    obtain ⟨rd,ed⟩:=ans
    have HAd:=Jh hans
    clear hans
    dsimp only
    rintro e w15 ⟨rfl,hbx⟩
    have HB15 : Hid (Below WB.heap.size WB w15):=belS HB14.out hbx
    clear hbx hE
    obtain ⟨xf0,xf1,xf2,xf3,xf4,xf5,xf6,xf7,xf8,xf9,xf10,xf11,xf12,xf13,xf14,xf15,xf16,xf17,xf18⟩:=HF.out w15 HB15.out
    by_cases h2 : ed = 0
    ·subst h2
     have hd:=z5z HRA.out HAs.out HAd.out
     subst hd
     go_wp2_with fail
     all_goals go_ret
     all_goals exact ⟨rfl,HBB.out.trans (HB15.out.mono HBB.out.size)⟩
    ·have d2 : (ed != 0) = true:=by simpa using h2
     clear h2
     go_wp2_with fail
     all_goals go_ret
     all_goals exact ⟨rfl,HBB.out.trans (HB15.out.mono HBB.out.size)⟩
  ·have hq' : (fu == lg) = false:=by simpa using hq
   clear HG3
   obtain ⟨xf0,xf1,xf2,xf3,xf4,xf5,xf6,xf7,xf8,xf9,xf10,xf11,xf12,xf13,xf14,xf15,xf16,xf17,xf18⟩:=HF.out w8 HB8.out
   go_upto_region 13 with fail
   clear xf0 xf1 xf2 xf3 xf4 xf5 xf6 xf7 xf8 xf9 xf10 xf11 xf12 xf13 xf14 xf15 xf16 xf17 xf18
   have hE:=HENV.out w8 HB8.out
   refine (zad (names.length : Int) _ l w8 hE.2.2.2.1).mono ?_
   rw [HF0.out.2.1]
   rintro e w9 ⟨⟨vm,rfl,hom⟩,hbx⟩
   have HB9 : Hid (Below WB.heap.size WB w9):=belS HB8.out hbx
   have HOM:=Jh (hom.segs (by have:=z54 0 l; have:=HL5.out; omega) (z5o HRL.out))
   clear hbx hE hom
   obtain ⟨xf0,xf1,xf2,xf3,xf4,xf5,xf6,xf7,xf8,xf9,xf10,xf11,xf12,xf13,xf14,xf15,xf16,xf17,xf18⟩:=HF.out w9 HB9.out
   go_upto_region 14 with fail
   clear xf0 xf1 xf2 xf3 xf4 xf5 xf6 xf7 xf8 xf9 xf10 xf11 xf12 xf13 xf14 xf15 xf16 xf17 xf18
   have hE:=HENV.out w9 HB9.out
   refine (z03 names _ _ HNS.out x _ (z4m 0 l) a p b q t _ w9 hE.1 hE.2.1 hE.2.2.1 HOM.out hE.2.2.2.2.2 HOK.out HIA.out HIB.out).mono ?_
   rw [z5i HRL.out HAs.out]
   dsimp only
   rintro e w10 ⟨rfl,hbx⟩
   have HB10 : Hid (Below WB.heap.size WB w10):=belS HB9.out hbx
   clear hbx hE
   obtain ⟨xf0,xf1,xf2,xf3,xf4,xf5,xf6,xf7,xf8,xf9,xf10,xf11,xf12,xf13,xf14,xf15,xf16,xf17,xf18⟩:=HF.out w10 HB10.out
   go_upto_region 17 with fail
   clear xf0 xf1 xf2 xf3 xf4 xf5 xf6 xf7 xf8 xf9 xf10 xf11 xf12 xf13 xf14 xf15 xf16 xf17 xf18
   clear HOM
   have hE:=HENV.out w10 HB10.out
   refine (cut_any (names.length : Int) z _ l w10 hE.2.2.2.1).mono ?_
   rw [HF0.out.2.1]
   rintro e w11 ⟨⟨vc,rfl,hoc⟩,hbx⟩
   have HB11 : Hid (Below WB.heap.size WB w11):=belS HB10.out hbx
   have HRC : Hid (∀ s ∈ (cutA 0 l z).1,InR s):=z94 HRL.out
   have HOC:=Jh (hoc.segs (by have:=z6z 0 z l; have:=HL5.out; omega) HRC.out)
   have HKC : Hid ((cutA 0 l z).2 = 0 → z0a names d x (cutA 0 l z).1 (a,p) (b,q) n t = (true,0)):=za5 HRL.out HRC.out HAs.out
   obtain ⟨ks,hks⟩ : ∃ y,cutA 0 l z = y:=⟨_,rfl⟩
   rw [hks] at HOC HKC ⊢
   obtain ⟨cs,kc⟩:=ks
   dsimp only at HOC HKC ⊢
   clear hbx hE hoc hks HRC
   obtain ⟨xf0,xf1,xf2,xf3,xf4,xf5,xf6,xf7,xf8,xf9,xf10,xf11,xf12,xf13,xf14,xf15,xf16,xf17,xf18⟩:=HF.out w11 HB11.out
   go_upto_region 18 with fail
   clear xf0 xf1 xf2 xf3 xf4 xf5 xf6 xf7 xf8 xf9 xf10 xf11 xf12 xf13 xf14 xf15 xf16 xf17 xf18
   have hE:=HENV.out w11 HB11.out
   refine (z03 names _ _ HNS.out x _ cs a p b q t _ w11 hE.1 hE.2.1 hE.2.2.1 HOC.out hE.2.2.2.2.2 HOK.out HIA.out HIB.out).mono ?_
   obtain ⟨ans,hans⟩ : ∃ r,z0a names d x cs (a,p) (b,q) n t = r:=⟨_,rfl⟩
   rw [hans]
   obtain ⟨rc,ec⟩:=ans
   have HAc:=Jh hans
   clear hans
   dsimp only
   rintro e w12 ⟨rfl,hbx⟩
   have HB12 : Hid (Below WB.heap.size WB w12):=belS HB11.out hbx
   clear hbx hE
   obtain ⟨xf0,xf1,xf2,xf3,xf4,xf5,xf6,xf7,xf8,xf9,xf10,xf11,xf12,xf13,xf14,xf15,xf16,xf17,xf18⟩:=HF.out w12 HB12.out
   by_cases h1 : kc = 0
   ·subst h1
    obtain ⟨q1,q2⟩:=Prod.mk.inj ((HKC.out rfl).symm.trans HAc.out)
    subst q1 q2
    clear HOC HKC HAc
    have hE:=HENV.out w12 HB12.out
    have HR1:=Jh (z2k w12 w12.heap.size (.slice none 0 0) _ [] l (World.ownsRow_nil _ _ _ _) (Nat.le_refl _) hE.2.2.2.1 (by have:=HL5.out; simp; omega))
    clear hE
    have HR2 : Hid (∀ W v,Below w12.heap.size w12 W → OwnS W w12.heap.size v ([] ++ l) → ∃ v' w',(Builtin.append_ #[48,48] 48 #[v,(.slice ma more.length mc)]).run Tryz.prog W = .ok v' w' ∧ OwnS w' w12.heap.size v' ([] ++ l ++ more) ∧ Below w12.heap.size W w'):=fun W v hb ho => z2k W w12.heap.size v _ ([] ++ l) more ho hb.size (HENV.out W (belS HB12.out hb)).2.2.2.2.1 (by have:=HL5.out; have:=HM5.out; simp; omega)
    go_upto_region 21 with (at_builtin; first | (refine z0h rfl _ _ 48 rfl _ _ rfl rfl _ HR1.out ?_; intro vq w13 hvw; obtain ⟨hoq,hbq⟩:=hvw) | (refine z0h rfl _ _ 48 rfl _ _ rfl rfl _ (HR2.out _ _ hbq hoq) ?_; intro vr w14 hvw; obtain ⟨hor,hbr⟩:=hvw))
    have HB13 : Hid (Below WB.heap.size WB w13):=belS HB12.out hbq
    have HB14 : Hid (Below WB.heap.size WB w14):=HB13.out.trans (hbr.mono HB12.out.size)
    have hra : ∀ s ∈ l ++ more,InR s:=fun s hs => (List.mem_append.1 hs).elim (HRL.out s) (HRM.out s)
    have HOR : Hid (Segs w14 w14.heap.size vr (l ++ more)):=OwnS.segs (B:=w12.heap.size) hor (by have:=HL5.out; have:=HM5.out; simp; omega) hra
    have HRA:=Jh hra
    clear hor hbr HR1 HR2 hra hoq hbq
    clear xf0 xf1 xf2 xf3 xf4 xf5 xf6 xf7 xf8 xf9 xf10 xf11 xf12 xf13 xf14 xf15 xf16 xf17 xf18
    obtain ⟨xf0,xf1,xf2,xf3,xf4,xf5,xf6,xf7,xf8,xf9,xf10,xf11,xf12,xf13,xf14,xf15,xf16,xf17,xf18⟩:=HF.out w14 HB14.out
    go_upto_region 22 with fail
    clear xf0 xf1 xf2 xf3 xf4 xf5 xf6 xf7 xf8 xf9 xf10 xf11 xf12 xf13 xf14 xf15 xf16 xf17 xf18
    have hE:=HENV.out w14 HB14.out
    refine (z03 names _ _ HNS.out x _ (l ++ more) a p b q t _ w14 hE.1 hE.2.1 hE.2.2.1 HOR.out hE.2.2.2.2.2 HOK.out HIA.out HIB.out).mono ?_
    obtain ⟨ans,hans⟩ : ∃ r,z0a names d x (l ++ more) (a,p) (b,q) n t = r:=⟨_,rfl⟩
    rw [hans]
    obtain ⟨rd,ed⟩:=ans
    have HAd:=Jh hans
    clear hans
    dsimp only
    rintro e w15 ⟨rfl,hbx⟩
    have HB15 : Hid (Below WB.heap.size WB w15):=belS HB14.out hbx
    clear hbx hE
    obtain ⟨xf0,xf1,xf2,xf3,xf4,xf5,xf6,xf7,xf8,xf9,xf10,xf11,xf12,xf13,xf14,xf15,xf16,xf17,xf18⟩:=HF.out w15 HB15.out
    by_cases h2 : ed = 0
    ·subst h2
     have hd:=z5z HRA.out HAs.out HAd.out
     subst hd
     go_wp2_with fail
     all_goals go_ret
     all_goals exact ⟨rfl,HBB.out.trans (HB15.out.mono HBB.out.size)⟩
    ·have d2 : (ed != 0) = true:=by simpa using h2
     clear h2
     go_wp2_with fail
     all_goals go_ret
     all_goals exact ⟨rfl,HBB.out.trans (HB15.out.mono HBB.out.size)⟩
   ·have d1 : (kc == 0) = false:=by simpa using h1
    clear h1
    clear HOC HKC HAc
    have hE:=HENV.out w12 HB12.out
    have HR1:=Jh (z2k w12 w12.heap.size (.slice none 0 0) _ [] l (World.ownsRow_nil _ _ _ _) (Nat.le_refl _) hE.2.2.2.1 (by have:=HL5.out; simp; omega))
    clear hE
    have HR2 : Hid (∀ W v,Below w12.heap.size w12 W → OwnS W w12.heap.size v ([] ++ l) → ∃ v' w',(Builtin.append_ #[48,48] 48 #[v,(.slice ma more.length mc)]).run Tryz.prog W = .ok v' w' ∧ OwnS w' w12.heap.size v' ([] ++ l ++ more) ∧ Below w12.heap.size W w'):=fun W v hb ho => z2k W w12.heap.size v _ ([] ++ l) more ho hb.size (HENV.out W (belS HB12.out hb)).2.2.2.2.1 (by have:=HL5.out; have:=HM5.out; simp; omega)
    go_upto_region 21 with (at_builtin; first | (refine z0h rfl _ _ 48 rfl _ _ rfl rfl _ HR1.out ?_; intro vq w13 hvw; obtain ⟨hoq,hbq⟩:=hvw) | (refine z0h rfl _ _ 48 rfl _ _ rfl rfl _ (HR2.out _ _ hbq hoq) ?_; intro vr w14 hvw; obtain ⟨hor,hbr⟩:=hvw))
    have HB13 : Hid (Below WB.heap.size WB w13):=belS HB12.out hbq
    have HB14 : Hid (Below WB.heap.size WB w14):=HB13.out.trans (hbr.mono HB12.out.size)
    have hra : ∀ s ∈ l ++ more,InR s:=fun s hs => (List.mem_append.1 hs).elim (HRL.out s) (HRM.out s)
    have HOR : Hid (Segs w14 w14.heap.size vr (l ++ more)):=OwnS.segs (B:=w12.heap.size) hor (by have:=HL5.out; have:=HM5.out; simp; omega) hra
    have HRA:=Jh hra
    clear hor hbr HR1 HR2 hra hoq hbq
    clear xf0 xf1 xf2 xf3 xf4 xf5 xf6 xf7 xf8 xf9 xf10 xf11 xf12 xf13 xf14 xf15 xf16 xf17 xf18
    obtain ⟨xf0,xf1,xf2,xf3,xf4,xf5,xf6,xf7,xf8,xf9,xf10,xf11,xf12,xf13,xf14,xf15,xf16,xf17,xf18⟩:=HF.out w14 HB14.out
    go_upto_region 22 with fail
    clear xf0 xf1 xf2 xf3 xf4 xf5 xf6 xf7 xf8 xf9 xf10 xf11 xf12 xf13 xf14 xf15 xf16 xf17 xf18
    have hE:=HENV.out w14 HB14.out
    refine (z03 names _ _ HNS.out x _ (l ++ more) a p b q t _ w14 hE.1 hE.2.1 hE.2.2.1 HOR.out hE.2.2.2.2.2 HOK.out HIA.out HIB.out).mono ?_
    obtain ⟨ans,hans⟩ : ∃ r,z0a names d x (l ++ more) (a,p) (b,q) n t = r:=⟨_,rfl⟩
    rw [hans]
    obtain ⟨rd,ed⟩:=ans
    have HAd:=Jh hans
    clear hans
    dsimp only
    rintro e w15 ⟨rfl,hbx⟩
    have HB15 : Hid (Below WB.heap.size WB w15):=belS HB14.out hbx
    clear hbx hE
    obtain ⟨xf0,xf1,xf2,xf3,xf4,xf5,xf6,xf7,xf8,xf9,xf10,xf11,xf12,xf13,xf14,xf15,xf16,xf17,xf18⟩:=HF.out w15 HB15.out
    by_cases h2 : ed = 0
    ·subst h2
     have hd:=z5z HRA.out HAs.out HAd.out
     subst hd
     go_wp2_with fail
     all_goals go_ret
     all_goals exact ⟨rfl,HBB.out.trans (HB15.out.mono HBB.out.size)⟩
    ·have d2 : (ed != 0) = true:=by simpa using h2
     clear h2
     go_wp2_with fail
     all_goals go_ret
     all_goals exact ⟨rfl,HBB.out.trans (HB15.out.mono HBB.out.size)⟩
 ·clear HFT HFU HWU
  obtain ⟨xf0,xf1,xf2,xf3,xf4,xf5,xf6,xf7,xf8,xf9,xf10,xf11,xf12,xf13,xf14,xf15,xf16,xf17,xf18⟩:=HF.out w8 HB8.out
  go_upto_region 13 with fail
  clear xf0 xf1 xf2 xf3 xf4 xf5 xf6 xf7 xf8 xf9 xf10 xf11 xf12 xf13 xf14 xf15 xf16 xf17 xf18
  have hE:=HENV.out w8 HB8.out
  refine (zad (names.length : Int) _ l w8 hE.2.2.2.1).mono ?_
  rw [HF0.out.2.1]
  rintro e w9 ⟨⟨vm,rfl,hom⟩,hbx⟩
  have HB9 : Hid (Below WB.heap.size WB w9):=belS HB8.out hbx
  have HOM:=Jh (hom.segs (by have:=z54 0 l; have:=HL5.out; omega) (z5o HRL.out))
  clear hbx hE hom
  obtain ⟨xf0,xf1,xf2,xf3,xf4,xf5,xf6,xf7,xf8,xf9,xf10,xf11,xf12,xf13,xf14,xf15,xf16,xf17,xf18⟩:=HF.out w9 HB9.out
  go_upto_region 14 with fail
  clear xf0 xf1 xf2 xf3 xf4 xf5 xf6 xf7 xf8 xf9 xf10 xf11 xf12 xf13 xf14 xf15 xf16 xf17 xf18
  have hE:=HENV.out w9 HB9.out
  refine (z03 names _ _ HNS.out x _ (z4m 0 l) a p b q t _ w9 hE.1 hE.2.1 hE.2.2.1 HOM.out hE.2.2.2.2.2 HOK.out HIA.out HIB.out).mono ?_
  rw [z5i HRL.out HAs.out]
  dsimp only
  rintro e w10 ⟨rfl,hbx⟩
  have HB10 : Hid (Below WB.heap.size WB w10):=belS HB9.out hbx
  clear hbx hE
  obtain ⟨xf0,xf1,xf2,xf3,xf4,xf5,xf6,xf7,xf8,xf9,xf10,xf11,xf12,xf13,xf14,xf15,xf16,xf17,xf18⟩:=HF.out w10 HB10.out
  go_upto_region 17 with fail
  clear xf0 xf1 xf2 xf3 xf4 xf5 xf6 xf7 xf8 xf9 xf10 xf11 xf12 xf13 xf14 xf15 xf16 xf17 xf18
  clear HOM
  have hE:=HENV.out w10 HB10.out
  refine (cut_any (names.length : Int) z _ l w10 hE.2.2.2.1).mono ?_
  rw [HF0.out.2.1]
  rintro e w11 ⟨⟨vc,rfl,hoc⟩,hbx⟩
  have HB11 : Hid (Below WB.heap.size WB w11):=belS HB10.out hbx
  have HRC : Hid (∀ s ∈ (cutA 0 l z).1,InR s):=z94 HRL.out
  have HOC:=Jh (hoc.segs (by have:=z6z 0 z l; have:=HL5.out; omega) HRC.out)
  have HKC : Hid ((cutA 0 l z).2 = 0 → z0a names d x (cutA 0 l z).1 (a,p) (b,q) n t = (false,0)):=za5 HRL.out HRC.out HAs.out
  obtain ⟨ks,hks⟩ : ∃ y,cutA 0 l z = y:=⟨_,rfl⟩
  rw [hks] at HOC HKC ⊢
  obtain ⟨cs,kc⟩:=ks
  dsimp only at HOC HKC ⊢
  clear hbx hE hoc hks HRC
  obtain ⟨xf0,xf1,xf2,xf3,xf4,xf5,xf6,xf7,xf8,xf9,xf10,xf11,xf12,xf13,xf14,xf15,xf16,xf17,xf18⟩:=HF.out w11 HB11.out
  go_upto_region 18 with fail
  clear xf0 xf1 xf2 xf3 xf4 xf5 xf6 xf7 xf8 xf9 xf10 xf11 xf12 xf13 xf14 xf15 xf16 xf17 xf18
  have hE:=HENV.out w11 HB11.out
  refine (z03 names _ _ HNS.out x _ cs a p b q t _ w11 hE.1 hE.2.1 hE.2.2.1 HOC.out hE.2.2.2.2.2 HOK.out HIA.out HIB.out).mono ?_
  obtain ⟨ans,hans⟩ : ∃ r,z0a names d x cs (a,p) (b,q) n t = r:=⟨_,rfl⟩
  rw [hans]
  obtain ⟨rc,ec⟩:=ans
  have HAc:=Jh hans
  clear hans
  dsimp only
  rintro e w12 ⟨rfl,hbx⟩
  have HB12 : Hid (Below WB.heap.size WB w12):=belS HB11.out hbx
  clear hbx hE
  obtain ⟨xf0,xf1,xf2,xf3,xf4,xf5,xf6,xf7,xf8,xf9,xf10,xf11,xf12,xf13,xf14,xf15,xf16,xf17,xf18⟩:=HF.out w12 HB12.out
  by_cases h1 : kc = 0
  ·subst h1
   obtain ⟨q1,q2⟩:=Prod.mk.inj ((HKC.out rfl).symm.trans HAc.out)
   subst q1 q2
   clear HOC HKC HAc
   have hE:=HENV.out w12 HB12.out
   have HR1:=Jh (z2k w12 w12.heap.size (.slice none 0 0) _ [] l (World.ownsRow_nil _ _ _ _) (Nat.le_refl _) hE.2.2.2.1 (by have:=HL5.out; simp; omega))
   clear hE
   have HR2 : Hid (∀ W v,Below w12.heap.size w12 W → OwnS W w12.heap.size v ([] ++ l) → ∃ v' w',(Builtin.append_ #[48,48] 48 #[v,(.slice ma more.length mc)]).run Tryz.prog W = .ok v' w' ∧ OwnS w' w12.heap.size v' ([] ++ l ++ more) ∧ Below w12.heap.size W w'):=fun W v hb ho => z2k W w12.heap.size v _ ([] ++ l) more ho hb.size (HENV.out W (belS HB12.out hb)).2.2.2.2.1 (by have:=HL5.out; have:=HM5.out; simp; omega)
   go_upto_region 21 with (at_builtin; first | (refine z0h rfl _ _ 48 rfl _ _ rfl rfl _ HR1.out ?_; intro vq w13 hvw; obtain ⟨hoq,hbq⟩:=hvw) | (refine z0h rfl _ _ 48 rfl _ _ rfl rfl _ (HR2.out _ _ hbq hoq) ?_; intro vr w14 hvw; obtain ⟨hor,hbr⟩:=hvw))
   have HB13 : Hid (Below WB.heap.size WB w13):=belS HB12.out hbq
   have HB14 : Hid (Below WB.heap.size WB w14):=HB13.out.trans (hbr.mono HB12.out.size)
   have hra : ∀ s ∈ l ++ more,InR s:=fun s hs => (List.mem_append.1 hs).elim (HRL.out s) (HRM.out s)
   have HOR : Hid (Segs w14 w14.heap.size vr (l ++ more)):=OwnS.segs (B:=w12.heap.size) hor (by have:=HL5.out; have:=HM5.out; simp; omega) hra
   have HRA:=Jh hra
   clear hor hbr HR1 HR2 hra hoq hbq
   clear xf0 xf1 xf2 xf3 xf4 xf5 xf6 xf7 xf8 xf9 xf10 xf11 xf12 xf13 xf14 xf15 xf16 xf17 xf18
   obtain ⟨xf0,xf1,xf2,xf3,xf4,xf5,xf6,xf7,xf8,xf9,xf10,xf11,xf12,xf13,xf14,xf15,xf16,xf17,xf18⟩:=HF.out w14 HB14.out
   go_upto_region 22 with fail
   clear xf0 xf1 xf2 xf3 xf4 xf5 xf6 xf7 xf8 xf9 xf10 xf11 xf12 xf13 xf14 xf15 xf16 xf17 xf18
   have hE:=HENV.out w14 HB14.out
   refine (z03 names _ _ HNS.out x _ (l ++ more) a p b q t _ w14 hE.1 hE.2.1 hE.2.2.1 HOR.out hE.2.2.2.2.2 HOK.out HIA.out HIB.out).mono ?_
   obtain ⟨ans,hans⟩ : ∃ r,z0a names d x (l ++ more) (a,p) (b,q) n t = r:=⟨_,rfl⟩
   rw [hans]
   obtain ⟨rd,ed⟩:=ans
   have HAd:=Jh hans
   clear hans
   dsimp only
   rintro e w15 ⟨rfl,hbx⟩
   have HB15 : Hid (Below WB.heap.size WB w15):=belS HB14.out hbx
   clear hbx hE
   obtain ⟨xf0,xf1,xf2,xf3,xf4,xf5,xf6,xf7,xf8,xf9,xf10,xf11,xf12,xf13,xf14,xf15,xf16,xf17,xf18⟩:=HF.out w15 HB15.out
   by_cases h2 : ed = 0
   ·subst h2
    go_wp2_with fail
    all_goals go_ret
    all_goals exact ⟨rfl,HBB.out.trans (HB15.out.mono HBB.out.size)⟩
   ·have d2 : (ed != 0) = true:=by simpa using h2
    clear h2
    go_wp2_with fail
    all_goals go_ret
    all_goals exact ⟨rfl,HBB.out.trans (HB15.out.mono HBB.out.size)⟩
  ·have d1 : (kc == 0) = false:=by simpa using h1
   clear h1
   clear HOC HKC HAc
   have hE:=HENV.out w12 HB12.out
   have HR1:=Jh (z2k w12 w12.heap.size (.slice none 0 0) _ [] l (World.ownsRow_nil _ _ _ _) (Nat.le_refl _) hE.2.2.2.1 (by have:=HL5.out; simp; omega))
   clear hE
   have HR2 : Hid (∀ W v,Below w12.heap.size w12 W → OwnS W w12.heap.size v ([] ++ l) → ∃ v' w',(Builtin.append_ #[48,48] 48 #[v,(.slice ma more.length mc)]).run Tryz.prog W = .ok v' w' ∧ OwnS w' w12.heap.size v' ([] ++ l ++ more) ∧ Below w12.heap.size W w'):=fun W v hb ho => z2k W w12.heap.size v _ ([] ++ l) more ho hb.size (HENV.out W (belS HB12.out hb)).2.2.2.2.1 (by have:=HL5.out; have:=HM5.out; simp; omega)
   go_upto_region 21 with (at_builtin; first | (refine z0h rfl _ _ 48 rfl _ _ rfl rfl _ HR1.out ?_; intro vq w13 hvw; obtain ⟨hoq,hbq⟩:=hvw) | (refine z0h rfl _ _ 48 rfl _ _ rfl rfl _ (HR2.out _ _ hbq hoq) ?_; intro vr w14 hvw; obtain ⟨hor,hbr⟩:=hvw))
   have HB13 : Hid (Below WB.heap.size WB w13):=belS HB12.out hbq
   have HB14 : Hid (Below WB.heap.size WB w14):=HB13.out.trans (hbr.mono HB12.out.size)
   have hra : ∀ s ∈ l ++ more,InR s:=fun s hs => (List.mem_append.1 hs).elim (HRL.out s) (HRM.out s)
   have HOR : Hid (Segs w14 w14.heap.size vr (l ++ more)):=OwnS.segs (B:=w12.heap.size) hor (by have:=HL5.out; have:=HM5.out; simp; omega) hra
   have HRA:=Jh hra
   clear hor hbr HR1 HR2 hra hoq hbq
   clear xf0 xf1 xf2 xf3 xf4 xf5 xf6 xf7 xf8 xf9 xf10 xf11 xf12 xf13 xf14 xf15 xf16 xf17 xf18
   obtain ⟨xf0,xf1,xf2,xf3,xf4,xf5,xf6,xf7,xf8,xf9,xf10,xf11,xf12,xf13,xf14,xf15,xf16,xf17,xf18⟩:=HF.out w14 HB14.out
   go_upto_region 22 with fail
   clear xf0 xf1 xf2 xf3 xf4 xf5 xf6 xf7 xf8 xf9 xf10 xf11 xf12 xf13 xf14 xf15 xf16 xf17 xf18
   have hE:=HENV.out w14 HB14.out
   refine (z03 names _ _ HNS.out x _ (l ++ more) a p b q t _ w14 hE.1 hE.2.1 hE.2.2.1 HOR.out hE.2.2.2.2.2 HOK.out HIA.out HIB.out).mono ?_
   obtain ⟨ans,hans⟩ : ∃ r,z0a names d x (l ++ more) (a,p) (b,q) n t = r:=⟨_,rfl⟩
   rw [hans]
   obtain ⟨rd,ed⟩:=ans
   have HAd:=Jh hans
   clear hans
   dsimp only
   rintro e w15 ⟨rfl,hbx⟩
   have HB15 : Hid (Below WB.heap.size WB w15):=belS HB14.out hbx
   clear hbx hE
   obtain ⟨xf0,xf1,xf2,xf3,xf4,xf5,xf6,xf7,xf8,xf9,xf10,xf11,xf12,xf13,xf14,xf15,xf16,xf17,xf18⟩:=HF.out w15 HB15.out
   by_cases h2 : ed = 0
   ·subst h2
    go_wp2_with fail
    all_goals go_ret
    all_goals exact ⟨rfl,HBB.out.trans (HB15.out.mono HBB.out.size)⟩
   ·have d2 : (ed != 0) = true:=by simpa using h2
    clear h2
    go_wp2_with fail
    all_goals go_ret
    all_goals exact ⟨rfl,HBB.out.trans (HB15.out.mono HBB.out.size)⟩
end Go.Proofs.YtockinpjfhhkoaaGreatDoor
