/- The law WitnessMakes, walked. (Printed by gen_wch.py.) -/
import Derived.Deep.RegionHeld
import Derived.Deep.Cut
import Derived.LoopTactic
import Derived.Test.YtockinpjfhhkoaaGreatDoorZ10
import Derived.Test.YtockinpjfhhkoaaGreatDoorZ45
import Derived.Test.YtockinpjfhhkoaaGreatDoorZ47
import Derived.Test.YtockinpjfhhkoaaGreatDoorZ48
import Derived.Test.YtockinpjfhhkoaaGreatDoorZ49
import Derived.Test.YtockinpjfhhkoaaGreatDoorZ24
import Derived.Test.YtockinpjfhhkoaaGreatDoorZ41
set_option maxRecDepth 100000
set_option maxHeartbeats 16000000
open List renaming setIfInBounds_toArray → J1, set_cons_zero → J2, set_cons_succ → J3, getElem_toArray → J4, getElem_cons_zero → J5, getElem_cons_succ → J6
open Go.Lib renaming cell_of_heap → Jc, hid → Jh
open Go.AllReadyH renaming cons → Jd, nil → Je
open Go renaming wpAnyH_ready → Jr
open Go.RowKit.Below renaming heap_alloc → Jb
namespace Go.Proofs.YtockinpjfhhkoaaGreatDoor
open Go.RowKit
theorem z8k (names : List ByteArray) (nv lv : Value) (hns : ∀ s ∈ names,s.size ≤ 281474976710656) {m d : Nat} (x y : XT m d) (xv yv : Value) (l : List (Int × Int)) (a p b q : Int) {n : Nat} (t : PT n) (wv : Value) (w : World)
 (hr : Rdy w) (hn : NRep w w.heap.size nv names) (hx : XRep w w.heap.size m d x xv) (hy : XRep w w.heap.size m d y yv) (hl : Segs w w.heap.size lv l) (hp : PRep w w.heap.size n t wv) (hrt : rngT n t) (ia : in64 a) (ib : in64 b) (hbx : bndX d x) (hby : bndX d y) :
 Calls Tryz.prog 9 #[nv,xv,yv,lv,.agg #[.int .i64 a,.int .i64 p,.int .i64 b,.int .i64 q],wv] w fun e w' => e = .returned (.bool true) ∧ Below w.heap.size w w':=by
 obtain ⟨kx,a1x,n1x,c1x,a2x,n2x,c2x,lox,lsx,hix,hsx,opx,rfl⟩:=hx.shape
 obtain ⟨ky,a1y,n1y,c1y,a2y,n2y,c2y,loy,lsy,hiy,hsy,opy,rfl⟩:=hy.shape
 obtain ⟨wk,sd,a3,l3,c3,a4,l4,c4,rfl⟩:=hp.shape
 obtain ⟨na,nc,rfl,_⟩:=id hn
 obtain ⟨la,lc,rfl,hlm,_⟩:=id hl
 obtain ⟨WB,hWWB⟩ : ∃ WB,WB = (((w.alloc (.cells #[.int .u8 kx,.slice a1x n1x c1x,.slice a2x n2x c2x,.int .i64 lox,.bool lsx,.int .i64 hix,.bool hsx,.bool opx] 47)).alloc (.cells #[.int .u8 ky,.slice a1y n1y c1y,.slice a2y n2y c2y,.int .i64 loy,.bool lsy,.int .i64 hiy,.bool hsy,.bool opy] 47)).alloc (.cells #[.int .i64 a,.int .i64 p,.int .i64 b,.int .i64 q] 52)).alloc (.cells #[.int .u8 wk,.int .u8 sd,.slice a3 l3 c3,.slice a4 l4 c4] 56):=⟨_,rfl⟩
 have hbWB : Below w.heap.size w WB:=by rw [hWWB]; exact (((z08 _ _).alloc (by simp <;> omega) _).alloc (by simp <;> omega) _).alloc (by simp <;> omega) _
 have hx0 : WB.heap[w.heap.size]? = some (.cells #[.int .u8 kx,.slice a1x n1x c1x,.slice a2x n2x c2x,.int .i64 lox,.bool lsx,.int .i64 hix,.bool hsx,.bool opx] 47 (0,0)):=by rw [hWWB]; exact (Jb _ _ _ (by simp <;> omega)).trans ((Jb _ _ _ (by simp <;> omega)).trans ((Jb _ _ _ (by simp <;> omega)).trans (z01 rfl)))
 have hx1 : WB.heap[w.heap.size + 1]? = some (.cells #[.int .u8 ky,.slice a1y n1y c1y,.slice a2y n2y c2y,.int .i64 loy,.bool lsy,.int .i64 hiy,.bool hsy,.bool opy] 47 (0,0)):=by rw [hWWB]; exact (Jb _ _ _ (by simp <;> omega)).trans ((Jb _ _ _ (by simp <;> omega)).trans (z01 (by simp)))
 have hx2 : WB.heap[w.heap.size + 1 + 1]? = some (.cells #[.int .i64 a,.int .i64 p,.int .i64 b,.int .i64 q] 52 (0,0)):=by rw [hWWB]; exact (Jb _ _ _ (by simp <;> omega)).trans (z01 (by simp))
 have hx3 : WB.heap[w.heap.size + 1 + 1 + 1]? = some (.cells #[.int .u8 wk,.int .u8 sd,.slice a3 l3 c3,.slice a4 l4 c4] 56 (0,0)):=by rw [hWWB]; exact z01 (by simp)
 have HX : Hid (∀ W,Below WB.heap.size WB W → W.heap[w.heap.size]? = some (.cells #[.int .u8 kx,.slice a1x n1x c1x,.slice a2x n2x c2x,.int .i64 lox,.bool lsx,.int .i64 hix,.bool hsx,.bool opx] 47 (0,0)) ∧ W.heap[w.heap.size + 1]? = some (.cells #[.int .u8 ky,.slice a1y n1y c1y,.slice a2y n2y c2y,.int .i64 loy,.bool lsy,.int .i64 hiy,.bool hsy,.bool opy] 47 (0,0)) ∧ W.heap[w.heap.size + 1 + 1]? = some (.cells #[.int .i64 a,.int .i64 p,.int .i64 b,.int .i64 q] 52 (0,0)) ∧ W.heap[w.heap.size + 1 + 1 + 1]? = some (.cells #[.int .u8 wk,.int .u8 sd,.slice a3 l3 c3,.slice a4 l4 c4] 56 (0,0))):=fun W hW => ⟨(hW.block _ (Array.getElem?_eq_some_iff.1 hx0).1).trans hx0,(hW.block _ (Array.getElem?_eq_some_iff.1 hx1).1).trans hx1,(hW.block _ (Array.getElem?_eq_some_iff.1 hx2).1).trans hx2,(hW.block _ (Array.getElem?_eq_some_iff.1 hx3).1).trans hx3⟩
 have HF : Hid (∀ W,Below WB.heap.size WB W → W.cell? ⟨w.heap.size,0,none⟩ = some (.int .u8 kx) ∧ W.cell? ⟨w.heap.size,1,none⟩ = some (.slice a1x n1x c1x) ∧ W.cell? ⟨w.heap.size,2,none⟩ = some (.slice a2x n2x c2x) ∧ W.cell? ⟨w.heap.size,3,none⟩ = some (.int .i64 lox) ∧ W.cell? ⟨w.heap.size,4,none⟩ = some (.bool lsx) ∧ W.cell? ⟨w.heap.size,5,none⟩ = some (.int .i64 hix) ∧ W.cell? ⟨w.heap.size,6,none⟩ = some (.bool hsx) ∧ W.cell? ⟨w.heap.size,7,none⟩ = some (.bool opx) ∧ W.cell? ⟨w.heap.size + 1,0,none⟩ = some (.int .u8 ky) ∧ W.cell? ⟨w.heap.size + 1,1,none⟩ = some (.slice a1y n1y c1y) ∧ W.cell? ⟨w.heap.size + 1,2,none⟩ = some (.slice a2y n2y c2y) ∧ W.cell? ⟨w.heap.size + 1,3,none⟩ = some (.int .i64 loy) ∧ W.cell? ⟨w.heap.size + 1,4,none⟩ = some (.bool lsy) ∧ W.cell? ⟨w.heap.size + 1,5,none⟩ = some (.int .i64 hiy) ∧ W.cell? ⟨w.heap.size + 1,6,none⟩ = some (.bool hsy) ∧ W.cell? ⟨w.heap.size + 1,7,none⟩ = some (.bool opy) ∧ W.cell? ⟨w.heap.size + 1 + 1,0,none⟩ = some (.int .i64 a) ∧ W.cell? ⟨w.heap.size + 1 + 1,1,none⟩ = some (.int .i64 p) ∧ W.cell? ⟨w.heap.size + 1 + 1,2,none⟩ = some (.int .i64 b) ∧ W.cell? ⟨w.heap.size + 1 + 1,3,none⟩ = some (.int .i64 q) ∧ W.cell? ⟨w.heap.size + 1 + 1 + 1,0,none⟩ = some (.int .u8 wk) ∧ W.cell? ⟨w.heap.size + 1 + 1 + 1,1,none⟩ = some (.int .u8 sd) ∧ W.cell? ⟨w.heap.size + 1 + 1 + 1,2,none⟩ = some (.slice a3 l3 c3) ∧ W.cell? ⟨w.heap.size + 1 + 1 + 1,3,none⟩ = some (.slice a4 l4 c4) ∧ w.heap.size < W.heap.size ∧ w.heap.size + 1 < W.heap.size ∧ w.heap.size + 1 + 1 < W.heap.size ∧ w.heap.size + 1 + 1 + 1 < W.heap.size):=by
  intro W hW
  obtain ⟨k0,k1,k2,k3⟩:=HX.out W hW
  exact ⟨Jc k0 0,Jc k0 1,Jc k0 2,Jc k0 3,Jc k0 4,Jc k0 5,Jc k0 6,Jc k0 7,Jc k1 0,Jc k1 1,Jc k1 2,Jc k1 3,Jc k1 4,Jc k1 5,Jc k1 6,Jc k1 7,Jc k2 0,Jc k2 1,Jc k2 2,Jc k2 3,Jc k3 0,Jc k3 1,Jc k3 2,Jc k3 3,(Array.getElem?_eq_some_iff.1 k0).1,(Array.getElem?_eq_some_iff.1 k1).1,(Array.getElem?_eq_some_iff.1 k2).1,(Array.getElem?_eq_some_iff.1 k3).1⟩
 have HBB:=Jh hbWB
 have HWB:=Jh hWWB.symm
 clear hWWB hbWB hx0 hx1 hx2 hx3
 have HENV : Hid (∀ W,Below WB.heap.size WB W → Rdy W ∧ NRep W W.heap.size (.slice na names.length nc) names ∧ XRep W W.heap.size m d x (.agg #[.int .u8 kx,.slice a1x n1x c1x,.slice a2x n2x c2x,.int .i64 lox,.bool lsx,.int .i64 hix,.bool hsx,.bool opx]) ∧ XRep W W.heap.size m d y (.agg #[.int .u8 ky,.slice a1y n1y c1y,.slice a2y n2y c2y,.int .i64 loy,.bool lsy,.int .i64 hiy,.bool hsy,.bool opy]) ∧ Segs W W.heap.size (.slice la l.length lc) l ∧ PRep W W.heap.size n t (.agg #[.int .u8 wk,.int .u8 sd,.slice a3 l3 c3,.slice a4 l4 c4])):=fun W hW => by
  have h:=HBB.out.trans (hW.mono HBB.out.size)
  exact ⟨hr.below h,hn.up h h.size,hx.up h h.size,hy.up h h.size,Segs.mono h.size (Segs.below h hl),hp.up h h.size⟩
 have HNS0:=Jh hns
 have HRT:=Jh hrt
 have HIA:=Jh ia
 have HIB:=Jh ib
 have HLM:=Jh hlm
 have HBX:=Jh hbx
 have HBY:=Jh hby
 clear hr hn hx hy hl hp hns hrt ia ib hlm hbx hby
 go_enter Tryz.func9,Tryz.ntmps9
 go_upto_region 1 with fail
 rw [HWB.out]
 clear HWB
 go_upto_region 2 with fail
 refine (z5d WB (HENV.out _ (Below.refl _ _)).1).mono ?_
 rintro e w1 ⟨rfl,hb1⟩
 have HB1:=Jh hb1
 clear hb1
 obtain ⟨xf0,xf1,xf2,xf3,xf4,xf5,xf6,xf7,xf8,xf9,xf10,xf11,xf12,xf13,xf14,xf15,xf16,xf17,xf18,xf19,xf20,xf21,xf22,xf23,xf24,xf25,xf26,xf27⟩:=HF.out w1 HB1.out
 go_upto_region 3 with fail
 clear xf0 xf1 xf2 xf3 xf4 xf5 xf6 xf7 xf8 xf9 xf10 xf11 xf12 xf13 xf14 xf15 xf16 xf17 xf18 xf19 xf20 xf21 xf22 xf23 xf24 xf25 xf26 xf27
 have hE:=HENV.out w1 HB1.out
 refine (z3z m d x _ w1 hE.2.2.1).mono ?_
 obtain ⟨gx,hgx⟩ : ∃ g,decide (2000 < z3i d x 2000) = g:=⟨_,rfl⟩
 rw [hgx]
 rintro e w2 ⟨rfl,hb2⟩
 have HB2 : Hid (Below WB.heap.size WB w2):=belS HB1.out hb2
 have Hgx:=Jh hgx
 clear hb2 hE hgx
 obtain ⟨xf0,xf1,xf2,xf3,xf4,xf5,xf6,xf7,xf8,xf9,xf10,xf11,xf12,xf13,xf14,xf15,xf16,xf17,xf18,xf19,xf20,xf21,xf22,xf23,xf24,xf25,xf26,xf27⟩:=HF.out w2 HB2.out
 rcases Bool.eq_false_or_eq_true gx with rfl | rfl
 ·go_wp2_with fail
  all_goals go_ret
  all_goals exact ⟨rfl,HBB.out.trans (HB2.out.mono HBB.out.size)⟩
 go_upto_region 3 with fail
 clear xf0 xf1 xf2 xf3 xf4 xf5 xf6 xf7 xf8 xf9 xf10 xf11 xf12 xf13 xf14 xf15 xf16 xf17 xf18 xf19 xf20 xf21 xf22 xf23 xf24 xf25 xf26 xf27
 have hE:=HENV.out w2 HB2.out
 refine (z3z m d y _ w2 hE.2.2.2.1).mono ?_
 obtain ⟨gy,hgy⟩ : ∃ g,decide (2000 < z3i d y 2000) = g:=⟨_,rfl⟩
 rw [hgy]
 rintro e w3 ⟨rfl,hb3⟩
 have HB3 : Hid (Below WB.heap.size WB w3):=belS HB2.out hb3
 have Hgy:=Jh hgy
 clear hb3 hE hgy
 obtain ⟨xf0,xf1,xf2,xf3,xf4,xf5,xf6,xf7,xf8,xf9,xf10,xf11,xf12,xf13,xf14,xf15,xf16,xf17,xf18,xf19,xf20,xf21,xf22,xf23,xf24,xf25,xf26,xf27⟩:=HF.out w3 HB3.out
 rcases Bool.eq_false_or_eq_true gy with rfl | rfl
 ·go_wp2_with fail
  all_goals go_ret
  all_goals exact ⟨rfl,HBB.out.trans (HB3.out.mono HBB.out.size)⟩
 go_upto_region 3 with fail
 clear xf0 xf1 xf2 xf3 xf4 xf5 xf6 xf7 xf8 xf9 xf10 xf11 xf12 xf13 xf14 xf15 xf16 xf17 xf18 xf19 xf20 xf21 xf22 xf23 xf24 xf25 xf26 xf27
 have hE:=HENV.out w3 HB3.out
 refine ((z3j names _ w3 hE.2.1).mono fun e w' h => (⟨h.1,h.2 ▸ Below.refl _ _⟩ : e = .returned (.bool (z5r names)) ∧ Below w3.heap.size w3 w')).mono ?_
 obtain ⟨gn,hgn⟩ : ∃ g,z5r names = g:=⟨_,rfl⟩
 rw [hgn]
 rintro e w4 ⟨rfl,hb4⟩
 have HB4 : Hid (Below WB.heap.size WB w4):=belS HB3.out hb4
 have Hgn:=Jh hgn
 clear hb4 hE hgn
 obtain ⟨xf0,xf1,xf2,xf3,xf4,xf5,xf6,xf7,xf8,xf9,xf10,xf11,xf12,xf13,xf14,xf15,xf16,xf17,xf18,xf19,xf20,xf21,xf22,xf23,xf24,xf25,xf26,xf27⟩:=HF.out w4 HB4.out
 rcases Bool.eq_false_or_eq_true gn with rfl | rfl
 ·go_wp2_with fail
  all_goals go_ret
  all_goals exact ⟨rfl,HBB.out.trans (HB4.out.mono HBB.out.size)⟩
 rcases Bool.eq_false_or_eq_true (decide ((500 : Int) < (l.length : Int))) with dl | dl
 ·go_wp2_with fail
  all_goals go_ret
  all_goals exact ⟨rfl,HBB.out.trans (HB4.out.mono HBB.out.size)⟩
 go_upto_region 3 with fail
 clear xf0 xf1 xf2 xf3 xf4 xf5 xf6 xf7 xf8 xf9 xf10 xf11 xf12 xf13 xf14 xf15 xf16 xf17 xf18 xf19 xf20 xf21 xf22 xf23 xf24 xf25 xf26 xf27
 clear dl
 have hE:=HENV.out w4 HB4.out
 refine (z7s n t _ w4 w4.heap.size hE.2.2.2.2.2 (Nat.le_refl _)).mono ?_
 obtain ⟨gw,hgw⟩ : ∃ g,decide (z18 n t 6000 < 0) = g:=⟨_,rfl⟩
 rw [hgw]
 rintro e w5 ⟨rfl,hb5⟩
 have HB5 : Hid (Below WB.heap.size WB w5):=belS HB4.out hb5
 have Hgw:=Jh hgw
 clear hb5 hE hgw
 obtain ⟨xf0,xf1,xf2,xf3,xf4,xf5,xf6,xf7,xf8,xf9,xf10,xf11,xf12,xf13,xf14,xf15,xf16,xf17,xf18,xf19,xf20,xf21,xf22,xf23,xf24,xf25,xf26,xf27⟩:=HF.out w5 HB5.out
 rcases Bool.eq_false_or_eq_true gw with rfl | rfl
 ·go_wp2_with fail
  all_goals go_ret
  all_goals exact ⟨rfl,HBB.out.trans (HB5.out.mono HBB.out.size)⟩
 have HOK : Hid (okT n t):=z7j HRT.out (of_decide_eq_false Hgw.out)
 have HMT : Hid (1 ≤ z0t n t ∧ z0t n t ≤ 6000):=z8w (HENV.out w5 HB5.out).2.2.2.2.2 (of_decide_eq_false Hgw.out)
 have HNS:=Jh (z8z Hgn.out HNS0.out)
 clear Hgn Hgw HRT HNS0
 go_upto_region 5 with fail
 clear xf0 xf1 xf2 xf3 xf4 xf5 xf6 xf7 xf8 xf9 xf10 xf11 xf12 xf13 xf14 xf15 xf16 xf17 xf18 xf19 xf20 xf21 xf22 xf23 xf24 xf25 xf26 xf27
 have hE:=HENV.out w5 HB5.out
 refine (z03 names _ _ HNS.out x _ l a p b q t _ w5 hE.1 hE.2.1 hE.2.2.1 hE.2.2.2.2.1 hE.2.2.2.2.2 HOK.out HIA.out HIB.out).mono ?_
 obtain ⟨ans,hans⟩ : ∃ r,z0a names d x l (a,p) (b,q) n t = r:=⟨_,rfl⟩
 rw [hans]
 obtain ⟨is,e0⟩:=ans
 dsimp only
 rintro e w6 ⟨rfl,hb6⟩
 have HB6 : Hid (Below WB.heap.size WB w6):=belS HB5.out hb6
 have HANS:=Jh hans
 clear hb6 hE hans
 obtain ⟨xf0,xf1,xf2,xf3,xf4,xf5,xf6,xf7,xf8,xf9,xf10,xf11,xf12,xf13,xf14,xf15,xf16,xf17,xf18,xf19,xf20,xf21,xf22,xf23,xf24,xf25,xf26,xf27⟩:=HF.out w6 HB6.out
 go_upto_region 5 with fail
 clear xf0 xf1 xf2 xf3 xf4 xf5 xf6 xf7 xf8 xf9 xf10 xf11 xf12 xf13 xf14 xf15 xf16 xf17 xf18 xf19 xf20 xf21 xf22 xf23 xf24 xf25 xf26 xf27
 have HMW:=fun W (h : Below WB.heap.size WB W) => Jh (z7l n t _ W W.heap.size (HENV.out W h).2.2.2.2.2 (Nat.le_refl _))
 have HCY:=fun W (h : Below WB.heap.size WB W) => Jh (z71 names _ HNS.out m d y _ W (HENV.out W h).1 (HENV.out W h).2.1 (HENV.out W h).2.2.2.1)
 have HMX:=fun W (h : Below WB.heap.size WB W) => Jh (z4n m d x _ W (HENV.out W h).2.2.1)
 have HMY:=fun W (h : Below WB.heap.size WB W) => Jh (z4n m d y _ W (HENV.out W h).2.2.2.1)
 obtain ⟨mt,hmt⟩ : ∃ z,z0t n t = z:=⟨_,rfl⟩
 obtain ⟨cy,hcy⟩ : ∃ z,z0r names d y = z:=⟨_,rfl⟩
 obtain ⟨mx,hmx⟩ : ∃ z,z10 d x = z:=⟨_,rfl⟩
 obtain ⟨my,hmy⟩ : ∃ z,z10 d y = z:=⟨_,rfl⟩
 rw [hmt] at HMW
 rw [hcy] at HCY
 rw [hmx] at HMX
 rw [hmy] at HMY
 have HMTE:=Jh hmt
 have HCYE:=Jh hcy
 have HMXE:=Jh hmx
 have HMYE:=Jh hmy
 clear hmt hcy hmx hmy
 by_cases h0 : e0 = 0
 rotate_left
 ·have d0 : (e0 != 0) = true:=by simpa using h0
  clear h0
  refine wrd (by kernel_rfl) HF.out ((HB6.out).drew) (fun hHeld => ?_)
  refine z00 (f:=0) (by kernel_rfl) (by assumption) [(0,true),(1,true),(2,true),(3,false),(4,false),(5,false),(6,true),(7,true),(8,false),(9,false),(10,false),(11,false),(12,true),(13,true),(14,false),(16,false),(18,false),(15,false),(17,false),(19,false),(20,false),(21,false),(22,false),(23,true)] rfl (by kernel_rfl) ?_
  repeat (first | (refine SeqH.skip rfl (fun _ _ _ h => h) (by kernel_rfl) ?_; (try simp only [Act.put,J1,J2,J3,J4,J5,J6])) | (refine SeqH.take (v:=?_) rfl (fun _ _ _ h => h) (by kernel_rfl) ?_ ?_; rotate_left; (· (intro w hSw; (try dsimp only at hSw); go_simp) <;> with_reducible rfl); (try simp only [Act.put,J1,J2,J3,J4,J5,J6])))
  refine SeqH.nil ?_
  refine wpAnyH_done (by kernel_rfl) ?_ _
  clear hHeld
  go_wp2_with fail
  all_goals go_ret
  all_goals exact ⟨rfl,HBB.out.trans (HB6.out.drew.mono HBB.out.size)⟩
 subst h0
 rcases Bool.eq_false_or_eq_true (decide ((2000 : Int) < mt)) with dm | dm
 ·skip
  refine wrd (by kernel_rfl) HF.out ((HB6.out).drew) (fun hHeld => ?_)
  refine z00 (f:=20) (by kernel_rfl) (by assumption) [(0,true),(1,true),(2,true),(3,true)] rfl (by kernel_rfl) ?_
  repeat (refine SeqH.take (v:=?_) rfl (fun _ _ _ h => h) (by kernel_rfl) ?_ ?_; rotate_left; (· (intro w hSw; (try dsimp only at hSw); go_simp) <;> with_reducible rfl); (try simp only [Act.put,J1,J2,J3,J4,J5,J6]))
  refine SeqH.nil ?_
  refine Jr (rs:=[4]) (by kernel_rfl) (by simp) ?_
  refine Jd rfl (fun K hK => ?_) Je
  go_simp
  go_at_call 31
  refine (HMW _ (HB6.out.drew)).out.mono ?_
  rintro e w7 ⟨rfl,hb7⟩
  have HB7 : Hid (Below WB.heap.size WB w7):=belS (HB6.out.drew) hb7
  clear hb7
  try dsimp only
  refine hK.out _ _ (HF.out _ HB7.out) (fun hHeld => ?_)
  clear hK K
  try simp only [Act.put,J1,J2,J3,J4,J5,J6]
  refine z00 (f:=0) (by kernel_rfl) (by assumption) [(5,true),(6,true),(7,true),(8,false),(9,false),(10,false),(11,false),(12,true),(13,true),(14,false),(16,false),(18,false),(15,false),(17,false),(19,false),(20,false),(21,false),(22,false),(23,true)] rfl (by kernel_rfl) ?_
  repeat (first | (refine SeqH.skip rfl (fun _ _ _ h => h) (by kernel_rfl) ?_; (try simp only [Act.put,J1,J2,J3,J4,J5,J6])) | (refine SeqH.take (v:=?_) rfl (fun _ _ _ h => h) (by kernel_rfl) ?_ ?_; rotate_left; (· (intro w hSw; (try dsimp only at hSw); go_simp) <;> with_reducible rfl); (try simp only [Act.put,J1,J2,J3,J4,J5,J6])))
  refine SeqH.nil ?_
  refine wpAnyH_done (by kernel_rfl) ?_ _
  clear hHeld
  go_wp2_with fail
  all_goals go_ret
  all_goals exact ⟨rfl,HBB.out.trans (HB7.out.mono HBB.out.size)⟩
 by_cases h1 : cy = 0
 rotate_left
 ·have d1 : (cy != 0) = true:=by simpa using h1
  clear h1
  refine wrd (by kernel_rfl) HF.out ((HB6.out).drew) (fun hHeld => ?_)
  refine z00 (f:=20) (by kernel_rfl) (by assumption) [(0,true),(1,true),(2,true),(3,true)] rfl (by kernel_rfl) ?_
  repeat (refine SeqH.take (v:=?_) rfl (fun _ _ _ h => h) (by kernel_rfl) ?_ ?_; rotate_left; (· (intro w hSw; (try dsimp only at hSw); go_simp) <;> with_reducible rfl); (try simp only [Act.put,J1,J2,J3,J4,J5,J6]))
  refine SeqH.nil ?_
  refine Jr (rs:=[4]) (by kernel_rfl) (by simp) ?_
  refine Jd rfl (fun K hK => ?_) Je
  go_simp
  go_at_call 31
  refine (HMW _ (HB6.out.drew)).out.mono ?_
  rintro e w7 ⟨rfl,hb7⟩
  have HB7 : Hid (Below WB.heap.size WB w7):=belS (HB6.out.drew) hb7
  clear hb7
  try dsimp only
  refine hK.out _ _ (HF.out _ HB7.out) (fun hHeld => ?_)
  clear hK K
  try simp only [Act.put,J1,J2,J3,J4,J5,J6]
  refine z00 (f:=14) (by kernel_rfl) (by assumption) [(5,true),(6,true),(7,true),(8,true),(9,true)] rfl (by kernel_rfl) ?_
  repeat (refine SeqH.take (v:=?_) rfl (fun _ _ _ h => h) (by kernel_rfl) ?_ ?_; rotate_left; (· (intro w hSw; (try dsimp only at hSw); go_simp) <;> with_reducible rfl); (try simp only [Act.put,J1,J2,J3,J4,J5,J6]))
  refine SeqH.nil ?_
  refine Jr (rs:=[10]) (by kernel_rfl) (by simp) ?_
  refine Jd rfl (fun K hK => ?_) Je
  go_simp
  go_at_call 32
  refine (HCY _ HB7.out).out.mono ?_
  rintro e w8 ⟨rfl,hb8⟩
  have HB8 : Hid (Below WB.heap.size WB w8):=belS (HB7.out) hb8
  clear hb8
  try dsimp only
  refine hK.out _ _ (HF.out _ HB8.out) (fun hHeld => ?_)
  clear hK K
  try simp only [Act.put,J1,J2,J3,J4,J5,J6]
  refine z00 (f:=0) (by kernel_rfl) (by assumption) [(11,true),(12,true),(13,true),(14,false),(16,false),(18,false),(15,false),(17,false),(19,false),(20,false),(21,false),(22,false),(23,true)] rfl (by kernel_rfl) ?_
  repeat (first | (refine SeqH.skip rfl (fun _ _ _ h => h) (by kernel_rfl) ?_; (try simp only [Act.put,J1,J2,J3,J4,J5,J6])) | (refine SeqH.take (v:=?_) rfl (fun _ _ _ h => h) (by kernel_rfl) ?_ ?_; rotate_left; (· (intro w hSw; (try dsimp only at hSw); go_simp) <;> with_reducible rfl); (try simp only [Act.put,J1,J2,J3,J4,J5,J6])))
  refine SeqH.nil ?_
  refine wpAnyH_done (by kernel_rfl) ?_ _
  clear hHeld
  go_wp2_with fail
  all_goals go_ret
  all_goals exact ⟨rfl,HBB.out.trans (HB8.out.mono HBB.out.size)⟩
 subst h1
 obtain ⟨sm,hsm⟩ : ∃ z,wrap64 (mx + max mx my) = z:=⟨_,rfl⟩
 have v1 : IntKind.i64.wrap (mx + max mx my) = sm:=(IntWalk.i64_left _).trans hsm
 have HSM:=Jh hsm
 refine wrd (by kernel_rfl) HF.out ((HB6.out).drew) (fun hHeld => ?_)
 refine z00 (f:=20) (by kernel_rfl) (by assumption) [(0,true),(1,true),(2,true),(3,true)] rfl (by kernel_rfl) ?_
 repeat (refine SeqH.take (v:=?_) rfl (fun _ _ _ h => h) (by kernel_rfl) ?_ ?_; rotate_left; (· (intro w hSw; (try dsimp only at hSw); go_simp) <;> with_reducible rfl); (try simp only [Act.put,J1,J2,J3,J4,J5,J6]))
 refine SeqH.nil ?_
 refine Jr (rs:=[4]) (by kernel_rfl) (by simp) ?_
 refine Jd rfl (fun K hK => ?_) Je
 go_simp
 go_at_call 31
 refine (HMW _ (HB6.out.drew)).out.mono ?_
 rintro e w7 ⟨rfl,hb7⟩
 have HB7 : Hid (Below WB.heap.size WB w7):=belS (HB6.out.drew) hb7
 clear hb7
 try dsimp only
 refine hK.out _ _ (HF.out _ HB7.out) (fun hHeld => ?_)
 clear hK K
 try simp only [Act.put,J1,J2,J3,J4,J5,J6]
 refine z00 (f:=14) (by kernel_rfl) (by assumption) [(5,true),(6,true),(7,true),(8,true),(9,true)] rfl (by kernel_rfl) ?_
 repeat (refine SeqH.take (v:=?_) rfl (fun _ _ _ h => h) (by kernel_rfl) ?_ ?_; rotate_left; (· (intro w hSw; (try dsimp only at hSw); go_simp) <;> with_reducible rfl); (try simp only [Act.put,J1,J2,J3,J4,J5,J6]))
 refine SeqH.nil ?_
 refine Jr (rs:=[10]) (by kernel_rfl) (by simp) ?_
 refine Jd rfl (fun K hK => ?_) Je
 go_simp
 go_at_call 32
 refine (HCY _ HB7.out).out.mono ?_
 rintro e w8 ⟨rfl,hb8⟩
 have HB8 : Hid (Below WB.heap.size WB w8):=belS (HB7.out) hb8
 clear hb8
 try dsimp only
 refine hK.out _ _ (HF.out _ HB8.out) (fun hHeld => ?_)
 clear hK K
 try simp only [Act.put,J1,J2,J3,J4,J5,J6]
 refine z00 (f:=7) (by kernel_rfl) (by assumption) [(11,true),(12,true),(13,true),(14,true),(16,true),(18,true)] rfl (by kernel_rfl) ?_
 repeat (refine SeqH.take (v:=?_) rfl (fun _ _ _ h => h) (by kernel_rfl) ?_ ?_; rotate_left; (· (intro w hSw; (try dsimp only at hSw); go_simp) <;> with_reducible rfl); (try simp only [Act.put,J1,J2,J3,J4,J5,J6]))
 refine SeqH.nil ?_
 refine Jr (rs:=[15]) (by kernel_rfl) (by simp) ?_
 refine Jd rfl (fun K hK => ?_) Je
 go_simp
 go_at_call 33
 refine (HMX _ HB8.out).out.mono ?_
 rintro e w9 ⟨rfl,hb9⟩
 have HB9 : Hid (Below WB.heap.size WB w9):=belS (HB8.out) hb9
 clear hb9
 try dsimp only
 refine hK.out _ _ (HF.out _ HB9.out) (fun hHeld => ?_)
 clear hK K
 try simp only [Act.put,J1,J2,J3,J4,J5,J6]
 refine Jr (rs:=[17]) (by kernel_rfl) (by simp) ?_
 refine Jd rfl (fun K hK => ?_) Je
 go_simp
 go_at_call 33
 refine (HMX _ HB9.out).out.mono ?_
 rintro e w10 ⟨rfl,hb10⟩
 have HB10 : Hid (Below WB.heap.size WB w10):=belS (HB9.out) hb10
 clear hb10
 try dsimp only
 refine hK.out _ _ (HF.out _ HB10.out) (fun hHeld => ?_)
 clear hK K
 try simp only [Act.put,J1,J2,J3,J4,J5,J6]
 refine Jr (rs:=[19]) (by kernel_rfl) (by simp) ?_
 refine Jd rfl (fun K hK => ?_) Je
 go_simp
 go_at_call 33
 refine (HMY _ HB10.out).out.mono ?_
 rintro e w11 ⟨rfl,hb11⟩
 have HB11 : Hid (Below WB.heap.size WB w11):=belS (HB10.out) hb11
 clear hb11
 try dsimp only
 refine hK.out _ _ (HF.out _ HB11.out) (fun hHeld => ?_)
 clear hK K
 try simp only [Act.put,J1,J2,J3,J4,J5,J6]
 refine z00 (f:=0) (by kernel_rfl) (by assumption) [(20,true),(21,true),(22,true),(23,true)] rfl (by kernel_rfl) ?_
 repeat (refine SeqH.take (v:=?_) rfl (fun _ _ _ h => h) (by kernel_rfl) ?_ ?_; rotate_left; (· (intro w hSw; (try dsimp only at hSw); go_simp) <;> with_reducible rfl); (try simp only [Act.put,J1,J2,J3,J4,J5,J6]))
 refine SeqH.nil ?_
 refine wpAnyH_done (by kernel_rfl) ?_ _
 clear hHeld
 by_cases d64 : (64 : Int) ≤ sm
 ·go_wp2_with fail
  all_goals go_ret
  all_goals exact ⟨rfl,HBB.out.trans (HB11.out.mono HBB.out.size)⟩
 obtain ⟨xf0,xf1,xf2,xf3,xf4,xf5,xf6,xf7,xf8,xf9,xf10,xf11,xf12,xf13,xf14,xf15,xf16,xf17,xf18,xf19,xf20,xf21,xf22,xf23,xf24,xf25,xf26,xf27⟩:=HF.out w11 HB11.out
 go_upto_region 8 with fail
 obtain ⟨W12,hW12⟩ : ∃ W12,W12 = w11.alloc (.cells #[.int .u8 wk,.int .u8 sd,.slice a3 l3 c3,.slice a4 l4 c4] 56):=⟨_,rfl⟩
 rw [← hW12]
 have hb12 : Below w11.heap.size w11 W12:=by rw [hW12]; exact z08 _ _
 have HB12 : Hid (Below WB.heap.size WB W12):=belS HB11.out hb12
 have HKO : Hid (W12.heap[w11.heap.size]? = some (.cells #[.int .u8 wk,.int .u8 sd,.slice a3 l3 c3,.slice a4 l4 c4] 56 (0,0))):=by rw [hW12]; exact z01 rfl
 have HONE : Hid (∀ W,Below W12.heap.size W12 W → ∀ k s : Int,PRep W W.heap.size (n + 1) ((k,s,[],[t]) : PT (n + 1)) (.agg #[.int .u8 k,.int .u8 s,.slice none 0 0,.slice (some ⟨w11.heap.size,0,none⟩) 1 1])):=fun W hW k s =>
  prep_over k s ((hW.block _ (Array.getElem?_eq_some_iff.1 HKO.out).1).trans HKO.out) (HENV.out W (belS HB12.out hW)).2.2.2.2.2 1
 have HOK1 : Hid (∀ k s : Int,okT (n + 1) ((k,s,[],[t]) : PT (n + 1))):=fun k s => ⟨fun x hx => by simp at hx,(show (0 : Nat) ≤ 100000 by decide),fun z hz => by
  have : z = t:=by simpa using hz
  rw [this]; exact HOK.out⟩
 clear hW12 hb12 HKO HB11
 clear xf0 xf1 xf2 xf3 xf4 xf5 xf6 xf7 xf8 xf9 xf10 xf11 xf12 xf13 xf14 xf15 xf16 xf17 xf18 xf19 xf20 xf21 xf22 xf23 xf24 xf25 xf26 xf27
 have HC12 : Hid (Below W12.heap.size W12 W12):=Below.refl _ _
 obtain ⟨xf0,xf1,xf2,xf3,xf4,xf5,xf6,xf7,xf8,xf9,xf10,xf11,xf12,xf13,xf14,xf15,xf16,xf17,xf18,xf19,xf20,xf21,xf22,xf23,xf24,xf25,xf26,xf27⟩:=HF.out W12 (belS HB12.out HC12.out)
 go_upto_region 9 with fail
 obtain ⟨W13,hW13⟩ : ∃ W,W = W12.alloc (.cells #[.int .u8 kx,.slice a1x n1x c1x,.slice a2x n2x c2x,.int .i64 lox,.bool lsx,.int .i64 hix,.bool hsx,.bool opx,.int .u8 ky,.slice a1y n1y c1y,.slice a2y n2y c2y,.int .i64 loy,.bool lsy,.int .i64 hiy,.bool hsy,.bool opy] 47):=⟨_,rfl⟩
 rw [← hW13]
 have hb13 : Below W12.heap.size W12 W13:=by rw [hW13]; exact z08 _ _
 have hB13:=belS HC12.out hb13
 have hk13 : W13.heap[W12.heap.size]? = some (.cells #[.int .u8 kx,.slice a1x n1x c1x,.slice a2x n2x c2x,.int .i64 lox,.bool lsx,.int .i64 hix,.bool hsx,.bool opx,.int .u8 ky,.slice a1y n1y c1y,.slice a2y n2y c2y,.int .i64 loy,.bool lsy,.int .i64 hiy,.bool hsy,.bool opy] 47 (0,0)):=by rw [hW13]; exact z01 rfl
 have hE:=HENV.out W13 (belS HB12.out hB13)
 refine (z03 (m:=m) (d:=d + 1) (n:=n + 1) names _ _ HNS.out (((2,[],[x,y],z06) : XT m (d + 1))) _ l a p b q (((2,1,[],[t]) : PT (n + 1))) _ W13 hE.1 hE.2.1 (z9s 2 z06 hk13 hE.2.2.1 hE.2.2.2.1 2) hE.2.2.2.2.1 (HONE.out W13 hB13 2 1) (HOK1.out _ _) HIA.out HIB.out).mono ?_
 obtain ⟨ans,hans⟩ : ∃ r,z0a names (d + 1) (((2,[],[x,y],z06) : XT m (d + 1))) l (a,p) (b,q) (n + 1) (((2,1,[],[t]) : PT (n + 1))) = r:=⟨_,rfl⟩
 rw [hans]
 obtain ⟨ra,ea⟩:=ans
 dsimp only
 rintro e w14 ⟨rfl,hbx⟩
 have HC14 : Hid (Below W12.heap.size W12 w14):=belS hB13 hbx
 have HAa:=Jh hans
 clear hW13 hb13 hB13 hk13 hE hbx hans
 clear xf0 xf1 xf2 xf3 xf4 xf5 xf6 xf7 xf8 xf9 xf10 xf11 xf12 xf13 xf14 xf15 xf16 xf17 xf18 xf19 xf20 xf21 xf22 xf23 xf24 xf25 xf26 xf27
 obtain ⟨xf0,xf1,xf2,xf3,xf4,xf5,xf6,xf7,xf8,xf9,xf10,xf11,xf12,xf13,xf14,xf15,xf16,xf17,xf18,xf19,xf20,xf21,xf22,xf23,xf24,xf25,xf26,xf27⟩:=HF.out w14 (belS HB12.out HC14.out)
 go_upto_region 10 with fail
 obtain ⟨W15,hW15⟩ : ∃ W,W = w14.alloc (.cells #[.int .u8 ky,.slice a1y n1y c1y,.slice a2y n2y c2y,.int .i64 loy,.bool lsy,.int .i64 hiy,.bool hsy,.bool opy,.int .u8 kx,.slice a1x n1x c1x,.slice a2x n2x c2x,.int .i64 lox,.bool lsx,.int .i64 hix,.bool hsx,.bool opx] 47):=⟨_,rfl⟩
 rw [← hW15]
 have hb15 : Below w14.heap.size w14 W15:=by rw [hW15]; exact z08 _ _
 have hB15:=belS HC14.out hb15
 have hk15 : W15.heap[w14.heap.size]? = some (.cells #[.int .u8 ky,.slice a1y n1y c1y,.slice a2y n2y c2y,.int .i64 loy,.bool lsy,.int .i64 hiy,.bool hsy,.bool opy,.int .u8 kx,.slice a1x n1x c1x,.slice a2x n2x c2x,.int .i64 lox,.bool lsx,.int .i64 hix,.bool hsx,.bool opx] 47 (0,0)):=by rw [hW15]; exact z01 rfl
 have hE:=HENV.out W15 (belS HB12.out hB15)
 refine (z03 (m:=m) (d:=d + 1) (n:=n + 1) names _ _ HNS.out (((2,[],[y,x],z06) : XT m (d + 1))) _ l a p b q (((2,2,[],[t]) : PT (n + 1))) _ W15 hE.1 hE.2.1 (z9s 2 z06 hk15 hE.2.2.2.1 hE.2.2.1 2) hE.2.2.2.2.1 (HONE.out W15 hB15 2 2) (HOK1.out _ _) HIA.out HIB.out).mono ?_
 obtain ⟨ans,hans⟩ : ∃ r,z0a names (d + 1) (((2,[],[y,x],z06) : XT m (d + 1))) l (a,p) (b,q) (n + 1) (((2,2,[],[t]) : PT (n + 1))) = r:=⟨_,rfl⟩
 rw [hans]
 obtain ⟨rb,eb⟩:=ans
 dsimp only
 rintro e w16 ⟨rfl,hbx⟩
 have HC16 : Hid (Below W12.heap.size W12 w16):=belS hB15 hbx
 have HAb:=Jh hans
 clear hW15 hb15 hB15 hk15 hE hbx hans
 clear xf0 xf1 xf2 xf3 xf4 xf5 xf6 xf7 xf8 xf9 xf10 xf11 xf12 xf13 xf14 xf15 xf16 xf17 xf18 xf19 xf20 xf21 xf22 xf23 xf24 xf25 xf26 xf27
 have HOK2 : Hid (okT (n + 1) ((3,0,[],[t,t]) : PT (n + 1))):=⟨fun x hx => by simp at hx,(show (0 : Nat) ≤ 100000 by decide),fun z hz => by
  have : z = t:=by simpa using hz
  rw [this]; exact HOK.out⟩
 obtain ⟨xf0,xf1,xf2,xf3,xf4,xf5,xf6,xf7,xf8,xf9,xf10,xf11,xf12,xf13,xf14,xf15,xf16,xf17,xf18,xf19,xf20,xf21,xf22,xf23,xf24,xf25,xf26,xf27⟩:=HF.out w16 (belS HB12.out HC16.out)
 go_upto_region 11 with fail
 obtain ⟨W17,hW17⟩ : ∃ W,W = (w16.alloc (.cells #[.int .u8 kx,.slice a1x n1x c1x,.slice a2x n2x c2x,.int .i64 lox,.bool lsx,.int .i64 hix,.bool hsx,.bool opx,.int .u8 kx,.slice a1x n1x c1x,.slice a2x n2x c2x,.int .i64 lox,.bool lsx,.int .i64 hix,.bool hsx,.bool opx] 47)).alloc (.cells #[.int .u8 wk,.int .u8 sd,.slice a3 l3 c3,.slice a4 l4 c4,.int .u8 wk,.int .u8 sd,.slice a3 l3 c3,.slice a4 l4 c4] 56):=⟨_,rfl⟩
 rw [← hW17]
 have hb17 : Below w16.heap.size w16 W17:=by rw [hW17]; exact (z08 _ _).alloc (by simp) _
 have hB17:=belS HC16.out hb17
 have hk17 : W17.heap[w16.heap.size]? = some (.cells #[.int .u8 kx,.slice a1x n1x c1x,.slice a2x n2x c2x,.int .i64 lox,.bool lsx,.int .i64 hix,.bool hsx,.bool opx,.int .u8 kx,.slice a1x n1x c1x,.slice a2x n2x c2x,.int .i64 lox,.bool lsx,.int .i64 hix,.bool hsx,.bool opx] 47 (0,0)):=by rw [hW17]; exact (Jb _ _ _ (by simp)).trans (z01 rfl)
 have hkk : W17.heap[w16.heap.size + 1]? = some (.cells #[.int .u8 wk,.int .u8 sd,.slice a3 l3 c3,.slice a4 l4 c4,.int .u8 wk,.int .u8 sd,.slice a3 l3 c3,.slice a4 l4 c4] 56 (0,0)):=by rw [hW17]; exact z01 (by simp)
 have hE:=HENV.out W17 (belS HB12.out hB17)
 refine (z03 (m:=m) (d:=d + 1) (n:=n + 1) names _ _ HNS.out (((3,[],[x,x],z06) : XT m (d + 1))) _ l a p b q (((3,0,[],[t,t]) : PT (n + 1))) _ W17 hE.1 hE.2.1 (z9s 3 z06 hk17 hE.2.2.1 hE.2.2.1 2) hE.2.2.2.2.1 (z4y 3 0 hkk hE.2.2.2.2.2 hE.2.2.2.2.2 rats_none 2) HOK2.out HIA.out HIB.out).mono ?_
 obtain ⟨ans,hans⟩ : ∃ r,z0a names (d + 1) (((3,[],[x,x],z06) : XT m (d + 1))) l (a,p) (b,q) (n + 1) (((3,0,[],[t,t]) : PT (n + 1))) = r:=⟨_,rfl⟩
 rw [hans]
 obtain ⟨rc,ec⟩:=ans
 dsimp only
 rintro e w18 ⟨rfl,hbx⟩
 have HC18 : Hid (Below W12.heap.size W12 w18):=belS hB17 hbx
 have HAc:=Jh hans
 clear hkk hW17 hb17 hB17 hk17 hE hbx hans
 clear xf0 xf1 xf2 xf3 xf4 xf5 xf6 xf7 xf8 xf9 xf10 xf11 xf12 xf13 xf14 xf15 xf16 xf17 xf18 xf19 xf20 xf21 xf22 xf23 xf24 xf25 xf26 xf27
 obtain ⟨xf0,xf1,xf2,xf3,xf4,xf5,xf6,xf7,xf8,xf9,xf10,xf11,xf12,xf13,xf14,xf15,xf16,xf17,xf18,xf19,xf20,xf21,xf22,xf23,xf24,xf25,xf26,xf27⟩:=HF.out w18 (belS HB12.out HC18.out)
 go_upto_region 12 with fail
 obtain ⟨W19,hW19⟩ : ∃ W,W = w18.alloc (.cells #[.int .u8 kx,.slice a1x n1x c1x,.slice a2x n2x c2x,.int .i64 lox,.bool lsx,.int .i64 hix,.bool hsx,.bool opx] 47):=⟨_,rfl⟩
 rw [← hW19]
 have hb19 : Below w18.heap.size w18 W19:=by rw [hW19]; exact z08 _ _
 have hB19:=belS HC18.out hb19
 have hk19 : W19.heap[w18.heap.size]? = some (.cells #[.int .u8 kx,.slice a1x n1x c1x,.slice a2x n2x c2x,.int .i64 lox,.bool lsx,.int .i64 hix,.bool hsx,.bool opx] 47 (0,0)):=by rw [hW19]; exact z01 rfl
 have hE:=HENV.out W19 (belS HB12.out hB19)
 refine (z03 (m:=m) (d:=d + 1) (n:=n + 1) names _ _ HNS.out (((5,[],[x],z06) : XT m (d + 1))) _ l a p b q (((5,0,[],[t]) : PT (n + 1))) _ W19 hE.1 hE.2.1 (z41 5 z06 hk19 hE.2.2.1 1) hE.2.2.2.2.1 (HONE.out W19 hB19 5 0) (HOK1.out _ _) HIA.out HIB.out).mono ?_
 obtain ⟨ans,hans⟩ : ∃ r,z0a names (d + 1) (((5,[],[x],z06) : XT m (d + 1))) l (a,p) (b,q) (n + 1) (((5,0,[],[t]) : PT (n + 1))) = r:=⟨_,rfl⟩
 rw [hans]
 obtain ⟨rd,ed⟩:=ans
 dsimp only
 rintro e w20 ⟨rfl,hbx⟩
 have HC20 : Hid (Below W12.heap.size W12 w20):=belS hB19 hbx
 have HAd:=Jh hans
 clear hW19 hb19 hB19 hk19 hE hbx hans
 clear xf0 xf1 xf2 xf3 xf4 xf5 xf6 xf7 xf8 xf9 xf10 xf11 xf12 xf13 xf14 xf15 xf16 xf17 xf18 xf19 xf20 xf21 xf22 xf23 xf24 xf25 xf26 xf27
 obtain ⟨xf0,xf1,xf2,xf3,xf4,xf5,xf6,xf7,xf8,xf9,xf10,xf11,xf12,xf13,xf14,xf15,xf16,xf17,xf18,xf19,xf20,xf21,xf22,xf23,xf24,xf25,xf26,xf27⟩:=HF.out w20 (belS HB12.out HC20.out)
 go_upto_region 13 with fail
 obtain ⟨W21,hW21⟩ : ∃ W,W = w20.alloc (.cells #[.int .u8 kx,.slice a1x n1x c1x,.slice a2x n2x c2x,.int .i64 lox,.bool lsx,.int .i64 hix,.bool hsx,.bool opx] 47):=⟨_,rfl⟩
 rw [← hW21]
 have hb21 : Below w20.heap.size w20 W21:=by rw [hW21]; exact z08 _ _
 have hB21:=belS HC20.out hb21
 have hk21 : W21.heap[w20.heap.size]? = some (.cells #[.int .u8 kx,.slice a1x n1x c1x,.slice a2x n2x c2x,.int .i64 lox,.bool lsx,.int .i64 hix,.bool hsx,.bool opx] 47 (0,0)):=by rw [hW21]; exact z01 rfl
 have hE:=HENV.out W21 (belS HB12.out hB21)
 refine (z03 (m:=m) (d:=d + 1) (n:=n + 1) names _ _ HNS.out (((6,[],[x],z98) : XT m (d + 1))) _ l a p b q (((6,0,[],[t]) : PT (n + 1))) _ W21 hE.1 hE.2.1 (z41 6 z98 hk21 hE.2.2.1 1) hE.2.2.2.2.1 (HONE.out W21 hB21 6 0) (HOK1.out _ _) HIA.out HIB.out).mono ?_
 obtain ⟨ans,hans⟩ : ∃ r,z0a names (d + 1) (((6,[],[x],z98) : XT m (d + 1))) l (a,p) (b,q) (n + 1) (((6,0,[],[t]) : PT (n + 1))) = r:=⟨_,rfl⟩
 rw [hans]
 obtain ⟨rk,ek⟩:=ans
 dsimp only
 rintro e w22 ⟨rfl,hbx⟩
 have HC22 : Hid (Below W12.heap.size W12 w22):=belS hB21 hbx
 have HAk:=Jh hans
 clear hW21 hb21 hB21 hk21 hE hbx hans
 clear xf0 xf1 xf2 xf3 xf4 xf5 xf6 xf7 xf8 xf9 xf10 xf11 xf12 xf13 xf14 xf15 xf16 xf17 xf18 xf19 xf20 xf21 xf22 xf23 xf24 xf25 xf26 xf27
 obtain ⟨xf0,xf1,xf2,xf3,xf4,xf5,xf6,xf7,xf8,xf9,xf10,xf11,xf12,xf13,xf14,xf15,xf16,xf17,xf18,xf19,xf20,xf21,xf22,xf23,xf24,xf25,xf26,xf27⟩:=HF.out w22 (belS HB12.out HC22.out)
 go_upto_region 14 with fail
 obtain ⟨W23,hW23⟩ : ∃ W,W = w22.alloc (.cells #[.int .u8 kx,.slice a1x n1x c1x,.slice a2x n2x c2x,.int .i64 lox,.bool lsx,.int .i64 hix,.bool hsx,.bool opx] 47):=⟨_,rfl⟩
 rw [← hW23]
 have hb23 : Below w22.heap.size w22 W23:=by rw [hW23]; exact z08 _ _
 have hB23:=belS HC22.out hb23
 have hk23 : W23.heap[w22.heap.size]? = some (.cells #[.int .u8 kx,.slice a1x n1x c1x,.slice a2x n2x c2x,.int .i64 lox,.bool lsx,.int .i64 hix,.bool hsx,.bool opx] 47 (0,0)):=by rw [hW23]; exact z01 rfl
 have hE:=HENV.out W23 (belS HB12.out hB23)
 refine (z03 (m:=m) (d:=d + 1) (n:=n + 1) names _ _ HNS.out (((5,[],[x],z06) : XT m (d + 1))) _ l a p b q (((6,0,[],[t]) : PT (n + 1))) _ W23 hE.1 hE.2.1 (z41 5 z06 hk23 hE.2.2.1 1) hE.2.2.2.2.1 (HONE.out W23 hB23 6 0) (HOK1.out _ _) HIA.out HIB.out).mono ?_
 obtain ⟨ans,hans⟩ : ∃ r,z0a names (d + 1) (((5,[],[x],z06) : XT m (d + 1))) l (a,p) (b,q) (n + 1) (((6,0,[],[t]) : PT (n + 1))) = r:=⟨_,rfl⟩
 rw [hans]
 obtain ⟨ro,eo⟩:=ans
 dsimp only
 rintro e w24 ⟨rfl,hbx⟩
 have HC24 : Hid (Below W12.heap.size W12 w24):=belS hB23 hbx
 have HAo:=Jh hans
 clear hW23 hb23 hB23 hk23 hE hbx hans
 clear xf0 xf1 xf2 xf3 xf4 xf5 xf6 xf7 xf8 xf9 xf10 xf11 xf12 xf13 xf14 xf15 xf16 xf17 xf18 xf19 xf20 xf21 xf22 xf23 xf24 xf25 xf26 xf27
 have hmt2 : z0t n t ≤ 2000:=by
  have:=of_decide_eq_false dm
  rw [HMTE.out]
  omega
 obtain ⟨p1,p2,p3,p4,p5,p6,p7⟩:=makes_plain HANS.out ⟨HMT.out.1,hmt2⟩ HCYE.out (z56 HBX.out (of_decide_eq_false Hgx.out) (z15 HANS.out).1) (z56 HBY.out (of_decide_eq_false Hgy.out) HCYE.out) (by rw [HMXE.out,HMYE.out,HSM.out]; omega)
 obtain ⟨c,hc⟩ : ∃ c,cmpE (a,p) (b,q) = c:=⟨_,rfl⟩
 have HCM:=fun W => Jh (z7z a p b q W HIA.out HIB.out)
 rw [hc] at p4 p5 HCM
 rw [p7] at HCM
 obtain ⟨q1,q1'⟩:=Prod.mk.inj (p1.symm.trans HAa.out)
 obtain ⟨q2,q2'⟩:=Prod.mk.inj (p2.symm.trans HAb.out)
 obtain ⟨q3,q3'⟩:=Prod.mk.inj (p3.symm.trans HAc.out)
 obtain ⟨q4,q4'⟩:=Prod.mk.inj (p4.symm.trans HAd.out)
 obtain ⟨q5,q5'⟩:=Prod.mk.inj (p5.symm.trans HAk.out)
 obtain ⟨q6,q6'⟩:=Prod.mk.inj (p6.symm.trans HAo.out)
 clear p1 p2 p3 p4 p5 p6 p7 hmt2 dm d64 HAa HAb HAc HAd HAk HAo hc HSM HMXE HMYE HMTE HCYE HMX HMY HCY HMW HANS HBX HBY Hgx Hgy HMT HOK HOK1 HOK2 HONE HIA HIB HNS HLM
 subst q1 q2 q3 q4 q5 q6 q1' q2' q3' q4' q5' q6'
 obtain ⟨xf0,xf1,xf2,xf3,xf4,xf5,xf6,xf7,xf8,xf9,xf10,xf11,xf12,xf13,xf14,xf15,xf16,xf17,xf18,xf19,xf20,xf21,xf22,xf23,xf24,xf25,xf26,xf27⟩:=HF.out w24 (belS HB12.out HC24.out)
 go_upto_region 16 with fail
 refine (HCM w24).out.mono ?_
 rintro e w25 ⟨rfl,hbx⟩
 have HC25 : Hid (Below W12.heap.size W12 w25):=belS HC24.out hbx
 clear hbx HCM
 clear xf0 xf1 xf2 xf3 xf4 xf5 xf6 xf7 xf8 xf9 xf10 xf11 xf12 xf13 xf14 xf15 xf16 xf17 xf18 xf19 xf20 xf21 xf22 xf23 xf24 xf25 xf26 xf27
 rcases Bool.eq_false_or_eq_true is with rfl | rfl
 ·rcases Int.lt_trichotomy c 0 with h | rfl | h
  ·have h1 : c ≤ 0:=by omega
   go_wp2_with fail
   all_goals go_ret
   all_goals exact ⟨rfl,HBB.out.trans ((belS HB12.out HC25.out).mono HBB.out.size)⟩
  ·go_wp2_with fail
   all_goals go_ret
   all_goals exact ⟨rfl,HBB.out.trans ((belS HB12.out HC25.out).mono HBB.out.size)⟩
  ·have h1 : ¬ c ≤ 0:=by omega
   have h2 : ¬ c < 0:=by omega
   go_wp2_with fail
   all_goals go_ret
   all_goals exact ⟨rfl,HBB.out.trans ((belS HB12.out HC25.out).mono HBB.out.size)⟩
 ·go_wp2_with fail
  all_goals go_ret
  all_goals exact ⟨rfl,HBB.out.trans ((belS HB12.out HC25.out).mono HBB.out.size)⟩
end Go.Proofs.YtockinpjfhhkoaaGreatDoor
