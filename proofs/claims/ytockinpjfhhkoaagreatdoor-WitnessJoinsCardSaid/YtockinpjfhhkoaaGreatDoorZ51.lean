/- What is joined of right ones: what witness.Check answers of it. Plain; and rows of one time. -/
import Derived.Test.YtockinpjfhhkoaaGreatDoorZ48
import Derived.Test.YtockinpjfhhkoaaGreatDoorZ49
import Derived.Deep.RegionHeld
import Derived.Deep.Cut
import Derived.LoopTactic
import Derived.Test.YtockinpjfhhkoaaGreatDoorZ10
import Derived.Test.YtockinpjfhhkoaaGreatDoorZ45
import Derived.Test.YtockinpjfhhkoaaGreatDoorZ24
import Derived.Test.YtockinpjfhhkoaaGreatDoorZ41
set_option maxRecDepth 100000
set_option maxHeartbeats 16000000
open List renaming setIfInBounds_toArray → J1, set_cons_zero → J2, set_cons_succ → J3, getElem_toArray → J4, getElem_cons_zero → J5, getElem_cons_succ → J6
open Go.Lib renaming cell_of_heap → Jc, hid → Jh
open Go.AllReadyH renaming cons → Jd, nil → Je
open Go renaming wpAnyH_ready → Jr
open Go.RowKit.Below renaming heap_alloc → Jb
namespace Go.Proofs.YtockinpjfhhkoaaGreatDoor
open Go.RowKit
theorem z63 {w : World} {b : Nat} {T : TypeId} {n p : Int} (h : w.heap[b]? = some (.cells #[.int .i64 n,.int .i64 p] T (0,0))) (c : Nat) : RatsRep w w.heap.size (.slice (some ⟨b,0,none⟩) 1 c) [(n,p)]:=by
 refine ⟨some ⟨b,0,none⟩,c,rfl,(show (1 : Nat) ≤ 9223372036854775807 by decide),.inr ⟨b,0,rfl,(Array.getElem?_eq_some_iff.1 h).1,fun i hi => ?_⟩⟩
 have hi' : i < 1:=hi
 obtain rfl : i = 0:=by omega
 exact ⟨Jc h 0,Jc h 1⟩
theorem joins_plain {names : List ByteArray} {m d n : Nat} {x y : XT m d} {l : List (Int × Int)} {t s u : Int × Int} {v w : PT n} {one two same : Bool} (h1 : z0a names d x l t s n v = (one,0)) (h2 : z0a names d y l s u n w = (two,0))
 (h3 : z0a names d x l s u n w = (same,0)) (hv : 1 ≤ z0t n v ∧ z0t n v ≤ 6000) (hw : 1 ≤ z0t n w ∧ z0t n w ≤ 6000) (hx1 : 1 ≤ z10 d x ∧ z10 d x ≤ 64) (hy1 : 1 ≤ z10 d y ∧ z10 d y ≤ 64)
 (hs : ¬ 64 ≤ wrap64 (z10 d x + z10 d y)) (hm : ¬ 4096 ≤ wrap64 (z0t n v + z0t n w)) :
 z0a names (d + 1) ((4,[],[x,y],z06) : XT m (d + 1)) l t u (n + 1) ((4,0,[s],[v,w]) : PT (n + 1)) = (one && two && decide (cmpE t s < 0) && decide (cmpE s u < 0),0) ∧
 z0a names (d + 1) ((5,[],[x],z06) : XT m (d + 1)) l t u (n + 1) ((5,0,[s],[v,w]) : PT (n + 1)) = (one && same && decide (cmpE t s < 0) && decide (cmpE s u < 0),0) ∧
 z4f [t,s] = 0 ∧ z4f [s,u] = 0:=by
 obtain ⟨c1,c2,c3,c4,c5,c6⟩:=z15 h1
 obtain ⟨d1,_,d3,d4,d5,d6⟩:=z15 h2
 obtain ⟨_,_,_,_,_,b6⟩:=z15 h3
 have k1:=(cmp_less c3 c4).1
 have k2:=(cmp_less d3 d4).1
 rw [IntWalk.wrap64_in _ (by omega)] at hs hm
 have o : ∀ k,z0t (n + 1) ((k,0,[s],[v,w]) : PT (n + 1)) ≤ 4096:=fun k => by rw [manyT_two k 0 [s] v w hv hw]; omega
 have f1 : z1l (cntX oneX d) 1 [x] ≤ 64:=by rw [foldX_one x hx1]; omega
 have fxy : z1l (cntX oneX d) 1 [x,y] ≤ 64:=by rw [z7t x y hx1 hy1]; omega
 have e1 : mayQ t.1 t.2 = true:=c3
 have e2 : mayQ s.1 s.2 = true:=c4
 have e3 : mayQ u.1 u.2 = true:=d4
 refine ⟨?_,?_,?_,?_⟩
 ·rw [z2d (z6d c1 d1 4 (.inr (.inr rfl)) fxy) c2 c3 d4 (o _)]
  refine congrArg (·,0) ((join_cat _ l n (toX d x) (toX d y) t s u v w).trans ?_)
  rw [c6,d6,k1,k2]
  cases z07 t s <;> cases z07 s u <;> cases one <;> cases two <;> rfl
 ·rw [z2d (z81 c1 5 z06 (.inl ⟨rfl,rfl⟩) f1) c2 c3 d4 (o _)]
  refine congrArg (·,0) ((join_plus _ l n (toX d x) t s u v w).trans ?_)
  rw [c6,b6,k1,k2]
  cases z07 t s <;> cases z07 s u <;> cases one <;> cases same <;> rfl
 ·unfold z4f; rw [if_pos]; simp [e1,e2]
 ·unfold z4f; rw [if_pos]; simp [e2,e3]
theorem wCheck_else {names : List ByteArray} {m d n : Nat} {x y : XT m d} {l : List (Int × Int)} {t s u : Int × Int} {v w : PT n} {one two : Bool} (h1 : z0a names d x l t s n v = (one,0)) (h2 : z0a names d y l s u n w = (two,0)) :
 z0a names d x l s u n w = (z05 (z0v names m) l n (toX d x) s u w,0):=by
 obtain ⟨c1,c2,c3,c4,c5,c6⟩:=z15 h1
 obtain ⟨d1,_,d3,d4,d5,d6⟩:=z15 h2
 exact z2d c1 c2 c4 d4 d5
open Go.RowKit
theorem ok_two {n : Nat} {k s sp : Int} {a b : PT n} (i : in64 s) (ha : okT n a) (hb : okT n b) : okT (n + 1) ((k,0,[(s,sp)],[a,b]) : PT (n + 1)):=by
 refine ⟨fun x hx => ?_,(show (1 : Nat) ≤ 100000 by decide),fun z hz => ?_⟩
 ·have : x = (s,sp):=by simpa using hx
  rw [this]; exact i
 ·cases hz with
  | head => exact ha
  | tail _ hz => cases hz with
   | head => exact hb
   | tail _ hz => cases hz
theorem z7b (names : List ByteArray) (nv lv : Value) (hns : ∀ s ∈ names,s.size ≤ 281474976710656) {m d : Nat} (x y : XT m d) (xv yv : Value) (l : List (Int × Int)) (t tp s sp u up : Int) {n : Nat} (ta tb : PT n) (av bv : Value) (w : World)
 (hr : Rdy w) (hn : NRep w w.heap.size nv names) (hx : XRep w w.heap.size m d x xv) (hy : XRep w w.heap.size m d y yv) (hl : Segs w w.heap.size lv l) (hp : PRep w w.heap.size n ta av) (hq : PRep w w.heap.size n tb bv) (hrt : rngT n ta) (hrb : rngT n tb)
 (it : in64 t) (is : in64 s) (iu : in64 u) (hbx : bndX d x) (hby : bndX d y) :
 Calls Tryz.prog 10 #[nv,xv,yv,lv,.agg #[.int .i64 t,.int .i64 tp],.agg #[.int .i64 s,.int .i64 sp],.agg #[.int .i64 u,.int .i64 up],av,bv] w fun e w' => e = .returned (.bool true) ∧ Below w.heap.size w w':=by
 obtain ⟨kx,a1x,n1x,c1x,a2x,n2x,c2x,lox,lsx,hix,hsx,opx,rfl⟩:=hx.shape
 obtain ⟨ky,a1y,n1y,c1y,a2y,n2y,c2y,loy,lsy,hiy,hsy,opy,rfl⟩:=hy.shape
 obtain ⟨wka,sda,a3a,l3a,c3a,a4a,l4a,c4a,rfl⟩:=hp.shape
 obtain ⟨wkb,sdb,a3b,l3b,c3b,a4b,l4b,c4b,rfl⟩:=hq.shape
 obtain ⟨na,nc,rfl,_⟩:=id hn
 obtain ⟨la,lc,rfl,hlm,_⟩:=id hl
 obtain ⟨WB,hWWB⟩ : ∃ WB,WB = ((((((w.alloc (.cells #[.int .u8 kx,.slice a1x n1x c1x,.slice a2x n2x c2x,.int .i64 lox,.bool lsx,.int .i64 hix,.bool hsx,.bool opx] 47)).alloc (.cells #[.int .u8 ky,.slice a1y n1y c1y,.slice a2y n2y c2y,.int .i64 loy,.bool lsy,.int .i64 hiy,.bool hsy,.bool opy] 47)).alloc (.cells #[.int .i64 t,.int .i64 tp] 50)).alloc (.cells #[.int .i64 s,.int .i64 sp] 50)).alloc (.cells #[.int .i64 u,.int .i64 up] 50)).alloc (.cells #[.int .u8 wka,.int .u8 sda,.slice a3a l3a c3a,.slice a4a l4a c4a] 56)).alloc (.cells #[.int .u8 wkb,.int .u8 sdb,.slice a3b l3b c3b,.slice a4b l4b c4b] 56):=⟨_,rfl⟩
 have hbWB : Below w.heap.size w WB:=by rw [hWWB]; exact ((((((z08 _ _).alloc (by simp <;> omega) _).alloc (by simp <;> omega) _).alloc (by simp <;> omega) _).alloc (by simp <;> omega) _).alloc (by simp <;> omega) _).alloc (by simp <;> omega) _
 have hx0 : WB.heap[w.heap.size]? = some (.cells #[.int .u8 kx,.slice a1x n1x c1x,.slice a2x n2x c2x,.int .i64 lox,.bool lsx,.int .i64 hix,.bool hsx,.bool opx] 47 (0,0)):=by rw [hWWB]; exact (Jb _ _ _ (by simp <;> omega)).trans ((Jb _ _ _ (by simp <;> omega)).trans ((Jb _ _ _ (by simp <;> omega)).trans ((Jb _ _ _ (by simp <;> omega)).trans ((Jb _ _ _ (by simp <;> omega)).trans ((Jb _ _ _ (by simp <;> omega)).trans (z01 rfl))))))
 have hx1 : WB.heap[w.heap.size + 1]? = some (.cells #[.int .u8 ky,.slice a1y n1y c1y,.slice a2y n2y c2y,.int .i64 loy,.bool lsy,.int .i64 hiy,.bool hsy,.bool opy] 47 (0,0)):=by rw [hWWB]; exact (Jb _ _ _ (by simp <;> omega)).trans ((Jb _ _ _ (by simp <;> omega)).trans ((Jb _ _ _ (by simp <;> omega)).trans ((Jb _ _ _ (by simp <;> omega)).trans ((Jb _ _ _ (by simp <;> omega)).trans (z01 (by simp))))))
 have hx2 : WB.heap[w.heap.size + 1 + 1]? = some (.cells #[.int .i64 t,.int .i64 tp] 50 (0,0)):=by rw [hWWB]; exact (Jb _ _ _ (by simp <;> omega)).trans ((Jb _ _ _ (by simp <;> omega)).trans ((Jb _ _ _ (by simp <;> omega)).trans ((Jb _ _ _ (by simp <;> omega)).trans (z01 (by simp)))))
 have hx3 : WB.heap[w.heap.size + 1 + 1 + 1]? = some (.cells #[.int .i64 s,.int .i64 sp] 50 (0,0)):=by rw [hWWB]; exact (Jb _ _ _ (by simp <;> omega)).trans ((Jb _ _ _ (by simp <;> omega)).trans ((Jb _ _ _ (by simp <;> omega)).trans (z01 (by simp))))
 have hx4 : WB.heap[w.heap.size + 1 + 1 + 1 + 1]? = some (.cells #[.int .i64 u,.int .i64 up] 50 (0,0)):=by rw [hWWB]; exact (Jb _ _ _ (by simp <;> omega)).trans ((Jb _ _ _ (by simp <;> omega)).trans (z01 (by simp)))
 have hx5 : WB.heap[w.heap.size + 1 + 1 + 1 + 1 + 1]? = some (.cells #[.int .u8 wka,.int .u8 sda,.slice a3a l3a c3a,.slice a4a l4a c4a] 56 (0,0)):=by rw [hWWB]; exact (Jb _ _ _ (by simp <;> omega)).trans (z01 (by simp))
 have hx6 : WB.heap[w.heap.size + 1 + 1 + 1 + 1 + 1 + 1]? = some (.cells #[.int .u8 wkb,.int .u8 sdb,.slice a3b l3b c3b,.slice a4b l4b c4b] 56 (0,0)):=by rw [hWWB]; exact z01 (by simp)
 have HX : Hid (∀ W,Below WB.heap.size WB W → W.heap[w.heap.size]? = some (.cells #[.int .u8 kx,.slice a1x n1x c1x,.slice a2x n2x c2x,.int .i64 lox,.bool lsx,.int .i64 hix,.bool hsx,.bool opx] 47 (0,0)) ∧ W.heap[w.heap.size + 1]? = some (.cells #[.int .u8 ky,.slice a1y n1y c1y,.slice a2y n2y c2y,.int .i64 loy,.bool lsy,.int .i64 hiy,.bool hsy,.bool opy] 47 (0,0)) ∧ W.heap[w.heap.size + 1 + 1]? = some (.cells #[.int .i64 t,.int .i64 tp] 50 (0,0)) ∧ W.heap[w.heap.size + 1 + 1 + 1]? = some (.cells #[.int .i64 s,.int .i64 sp] 50 (0,0)) ∧ W.heap[w.heap.size + 1 + 1 + 1 + 1]? = some (.cells #[.int .i64 u,.int .i64 up] 50 (0,0)) ∧ W.heap[w.heap.size + 1 + 1 + 1 + 1 + 1]? = some (.cells #[.int .u8 wka,.int .u8 sda,.slice a3a l3a c3a,.slice a4a l4a c4a] 56 (0,0)) ∧ W.heap[w.heap.size + 1 + 1 + 1 + 1 + 1 + 1]? = some (.cells #[.int .u8 wkb,.int .u8 sdb,.slice a3b l3b c3b,.slice a4b l4b c4b] 56 (0,0))):=fun W hW => ⟨(hW.block _ (Array.getElem?_eq_some_iff.1 hx0).1).trans hx0,(hW.block _ (Array.getElem?_eq_some_iff.1 hx1).1).trans hx1,(hW.block _ (Array.getElem?_eq_some_iff.1 hx2).1).trans hx2,(hW.block _ (Array.getElem?_eq_some_iff.1 hx3).1).trans hx3,(hW.block _ (Array.getElem?_eq_some_iff.1 hx4).1).trans hx4,(hW.block _ (Array.getElem?_eq_some_iff.1 hx5).1).trans hx5,(hW.block _ (Array.getElem?_eq_some_iff.1 hx6).1).trans hx6⟩
 have HF : Hid (∀ W,Below WB.heap.size WB W → W.cell? ⟨w.heap.size,0,none⟩ = some (.int .u8 kx) ∧ W.cell? ⟨w.heap.size,1,none⟩ = some (.slice a1x n1x c1x) ∧ W.cell? ⟨w.heap.size,2,none⟩ = some (.slice a2x n2x c2x) ∧ W.cell? ⟨w.heap.size,3,none⟩ = some (.int .i64 lox) ∧ W.cell? ⟨w.heap.size,4,none⟩ = some (.bool lsx) ∧ W.cell? ⟨w.heap.size,5,none⟩ = some (.int .i64 hix) ∧ W.cell? ⟨w.heap.size,6,none⟩ = some (.bool hsx) ∧ W.cell? ⟨w.heap.size,7,none⟩ = some (.bool opx) ∧ W.cell? ⟨w.heap.size + 1,0,none⟩ = some (.int .u8 ky) ∧ W.cell? ⟨w.heap.size + 1,1,none⟩ = some (.slice a1y n1y c1y) ∧ W.cell? ⟨w.heap.size + 1,2,none⟩ = some (.slice a2y n2y c2y) ∧ W.cell? ⟨w.heap.size + 1,3,none⟩ = some (.int .i64 loy) ∧ W.cell? ⟨w.heap.size + 1,4,none⟩ = some (.bool lsy) ∧ W.cell? ⟨w.heap.size + 1,5,none⟩ = some (.int .i64 hiy) ∧ W.cell? ⟨w.heap.size + 1,6,none⟩ = some (.bool hsy) ∧ W.cell? ⟨w.heap.size + 1,7,none⟩ = some (.bool opy) ∧ W.cell? ⟨w.heap.size + 1 + 1,0,none⟩ = some (.int .i64 t) ∧ W.cell? ⟨w.heap.size + 1 + 1,1,none⟩ = some (.int .i64 tp) ∧ W.cell? ⟨w.heap.size + 1 + 1 + 1,0,none⟩ = some (.int .i64 s) ∧ W.cell? ⟨w.heap.size + 1 + 1 + 1,1,none⟩ = some (.int .i64 sp) ∧ W.cell? ⟨w.heap.size + 1 + 1 + 1 + 1,0,none⟩ = some (.int .i64 u) ∧ W.cell? ⟨w.heap.size + 1 + 1 + 1 + 1,1,none⟩ = some (.int .i64 up) ∧ W.cell? ⟨w.heap.size + 1 + 1 + 1 + 1 + 1,0,none⟩ = some (.int .u8 wka) ∧ W.cell? ⟨w.heap.size + 1 + 1 + 1 + 1 + 1,1,none⟩ = some (.int .u8 sda) ∧ W.cell? ⟨w.heap.size + 1 + 1 + 1 + 1 + 1,2,none⟩ = some (.slice a3a l3a c3a) ∧ W.cell? ⟨w.heap.size + 1 + 1 + 1 + 1 + 1,3,none⟩ = some (.slice a4a l4a c4a) ∧ W.cell? ⟨w.heap.size + 1 + 1 + 1 + 1 + 1 + 1,0,none⟩ = some (.int .u8 wkb) ∧ W.cell? ⟨w.heap.size + 1 + 1 + 1 + 1 + 1 + 1,1,none⟩ = some (.int .u8 sdb) ∧ W.cell? ⟨w.heap.size + 1 + 1 + 1 + 1 + 1 + 1,2,none⟩ = some (.slice a3b l3b c3b) ∧ W.cell? ⟨w.heap.size + 1 + 1 + 1 + 1 + 1 + 1,3,none⟩ = some (.slice a4b l4b c4b) ∧ w.heap.size < W.heap.size ∧ w.heap.size + 1 < W.heap.size ∧ w.heap.size + 1 + 1 < W.heap.size ∧ w.heap.size + 1 + 1 + 1 < W.heap.size ∧ w.heap.size + 1 + 1 + 1 + 1 < W.heap.size ∧ w.heap.size + 1 + 1 + 1 + 1 + 1 < W.heap.size ∧ w.heap.size + 1 + 1 + 1 + 1 + 1 + 1 < W.heap.size):=by
  intro W hW
  obtain ⟨k0,k1,k2,k3,k4,k5,k6⟩:=HX.out W hW
  exact ⟨Jc k0 0,Jc k0 1,Jc k0 2,Jc k0 3,Jc k0 4,Jc k0 5,Jc k0 6,Jc k0 7,Jc k1 0,Jc k1 1,Jc k1 2,Jc k1 3,Jc k1 4,Jc k1 5,Jc k1 6,Jc k1 7,Jc k2 0,Jc k2 1,Jc k3 0,Jc k3 1,Jc k4 0,Jc k4 1,Jc k5 0,Jc k5 1,Jc k5 2,Jc k5 3,Jc k6 0,Jc k6 1,Jc k6 2,Jc k6 3,(Array.getElem?_eq_some_iff.1 k0).1,(Array.getElem?_eq_some_iff.1 k1).1,(Array.getElem?_eq_some_iff.1 k2).1,(Array.getElem?_eq_some_iff.1 k3).1,(Array.getElem?_eq_some_iff.1 k4).1,(Array.getElem?_eq_some_iff.1 k5).1,(Array.getElem?_eq_some_iff.1 k6).1⟩
 have HBB:=Jh hbWB
 have HWB:=Jh hWWB.symm
 clear hWWB hbWB hx0 hx1 hx2 hx3 hx4 hx5 hx6
 have HENV : Hid (∀ W,Below WB.heap.size WB W → Rdy W ∧ NRep W W.heap.size (.slice na names.length nc) names ∧ XRep W W.heap.size m d x (.agg #[.int .u8 kx,.slice a1x n1x c1x,.slice a2x n2x c2x,.int .i64 lox,.bool lsx,.int .i64 hix,.bool hsx,.bool opx]) ∧ XRep W W.heap.size m d y (.agg #[.int .u8 ky,.slice a1y n1y c1y,.slice a2y n2y c2y,.int .i64 loy,.bool lsy,.int .i64 hiy,.bool hsy,.bool opy]) ∧ Segs W W.heap.size (.slice la l.length lc) l ∧ PRep W W.heap.size n ta (.agg #[.int .u8 wka,.int .u8 sda,.slice a3a l3a c3a,.slice a4a l4a c4a]) ∧ PRep W W.heap.size n tb (.agg #[.int .u8 wkb,.int .u8 sdb,.slice a3b l3b c3b,.slice a4b l4b c4b])):=fun W hW => by
  have h:=HBB.out.trans (hW.mono HBB.out.size)
  exact ⟨hr.below h,hn.up h h.size,hx.up h h.size,hy.up h h.size,Segs.mono h.size (Segs.below h hl),hp.up h h.size,hq.up h h.size⟩
 have HNS0:=Jh hns
 have HRA:=Jh hrt
 have HRB:=Jh hrb
 have HIT:=Jh it
 have HIS:=Jh is
 have HIU:=Jh iu
 have HLM:=Jh hlm
 have HBX:=Jh hbx
 have HBY:=Jh hby
 clear hr hn hx hy hl hp hq hns hrt hrb it is iu hlm hbx hby
 go_enter Tryz.func10,Tryz.ntmps10
 go_upto_region 1 with fail
 rw [HWB.out]
 clear HWB
 go_upto_region 2 with fail
 refine (z5d WB (HENV.out _ (Below.refl _ _)).1).mono ?_
 rintro e w1 ⟨rfl,hb1⟩
 have HB1:=Jh hb1
 clear hb1
 obtain ⟨xf0,xf1,xf2,xf3,xf4,xf5,xf6,xf7,xf8,xf9,xf10,xf11,xf12,xf13,xf14,xf15,xf16,xf17,xf18,xf19,xf20,xf21,xf22,xf23,xf24,xf25,xf26,xf27,xf28,xf29,xf30,xf31,xf32,xf33,xf34,xf35,xf36⟩:=HF.out w1 HB1.out
 go_upto_region 3 with fail
 clear xf0 xf1 xf2 xf3 xf4 xf5 xf6 xf7 xf8 xf9 xf10 xf11 xf12 xf13 xf14 xf15 xf16 xf17 xf18 xf19 xf20 xf21 xf22 xf23 xf24 xf25 xf26 xf27 xf28 xf29 xf30 xf31 xf32 xf33 xf34 xf35 xf36
 have hE:=HENV.out w1 HB1.out
 refine (z3z m d x _ w1 hE.2.2.1).mono ?_
 obtain ⟨gx,hgx⟩ : ∃ g,decide (2000 < z3i d x 2000) = g:=⟨_,rfl⟩
 rw [hgx]
 rintro e w2 ⟨rfl,hb2⟩
 have HB2 : Hid (Below WB.heap.size WB w2):=belS HB1.out hb2
 have Hgx:=Jh hgx
 clear hb2 hE hgx
 obtain ⟨xf0,xf1,xf2,xf3,xf4,xf5,xf6,xf7,xf8,xf9,xf10,xf11,xf12,xf13,xf14,xf15,xf16,xf17,xf18,xf19,xf20,xf21,xf22,xf23,xf24,xf25,xf26,xf27,xf28,xf29,xf30,xf31,xf32,xf33,xf34,xf35,xf36⟩:=HF.out w2 HB2.out
 rcases Bool.eq_false_or_eq_true gx with rfl | rfl
 ·skip
  go_wp2_with fail
  all_goals go_ret
  all_goals exact ⟨rfl,HBB.out.trans (HB2.out.mono HBB.out.size)⟩
 go_upto_region 3 with fail
 clear xf0 xf1 xf2 xf3 xf4 xf5 xf6 xf7 xf8 xf9 xf10 xf11 xf12 xf13 xf14 xf15 xf16 xf17 xf18 xf19 xf20 xf21 xf22 xf23 xf24 xf25 xf26 xf27 xf28 xf29 xf30 xf31 xf32 xf33 xf34 xf35 xf36
 have hE:=HENV.out w2 HB2.out
 refine (z3z m d y _ w2 hE.2.2.2.1).mono ?_
 obtain ⟨gy,hgy⟩ : ∃ g,decide (2000 < z3i d y 2000) = g:=⟨_,rfl⟩
 rw [hgy]
 rintro e w3 ⟨rfl,hb3⟩
 have HB3 : Hid (Below WB.heap.size WB w3):=belS HB2.out hb3
 have Hgy:=Jh hgy
 clear hb3 hE hgy
 obtain ⟨xf0,xf1,xf2,xf3,xf4,xf5,xf6,xf7,xf8,xf9,xf10,xf11,xf12,xf13,xf14,xf15,xf16,xf17,xf18,xf19,xf20,xf21,xf22,xf23,xf24,xf25,xf26,xf27,xf28,xf29,xf30,xf31,xf32,xf33,xf34,xf35,xf36⟩:=HF.out w3 HB3.out
 rcases Bool.eq_false_or_eq_true gy with rfl | rfl
 ·skip
  go_wp2_with fail
  all_goals go_ret
  all_goals exact ⟨rfl,HBB.out.trans (HB3.out.mono HBB.out.size)⟩
 go_upto_region 3 with fail
 clear xf0 xf1 xf2 xf3 xf4 xf5 xf6 xf7 xf8 xf9 xf10 xf11 xf12 xf13 xf14 xf15 xf16 xf17 xf18 xf19 xf20 xf21 xf22 xf23 xf24 xf25 xf26 xf27 xf28 xf29 xf30 xf31 xf32 xf33 xf34 xf35 xf36
 have hE:=HENV.out w3 HB3.out
 refine ((z3j names _ w3 hE.2.1).mono fun e w' h => (⟨h.1,h.2 ▸ Below.refl _ _⟩ : e = .returned (.bool (z5r names)) ∧ Below w3.heap.size w3 w')).mono ?_
 obtain ⟨gn,hgn⟩ : ∃ g,z5r names = g:=⟨_,rfl⟩
 rw [hgn]
 rintro e w4 ⟨rfl,hb4⟩
 have HB4 : Hid (Below WB.heap.size WB w4):=belS HB3.out hb4
 have Hgn:=Jh hgn
 clear hb4 hE hgn
 obtain ⟨xf0,xf1,xf2,xf3,xf4,xf5,xf6,xf7,xf8,xf9,xf10,xf11,xf12,xf13,xf14,xf15,xf16,xf17,xf18,xf19,xf20,xf21,xf22,xf23,xf24,xf25,xf26,xf27,xf28,xf29,xf30,xf31,xf32,xf33,xf34,xf35,xf36⟩:=HF.out w4 HB4.out
 rcases Bool.eq_false_or_eq_true gn with rfl | rfl
 ·skip
  go_wp2_with fail
  all_goals go_ret
  all_goals exact ⟨rfl,HBB.out.trans (HB4.out.mono HBB.out.size)⟩
 rcases Bool.eq_false_or_eq_true (decide ((500 : Int) < (l.length : Int))) with dl | dl
 ·skip
  go_wp2_with fail
  all_goals go_ret
  all_goals exact ⟨rfl,HBB.out.trans (HB4.out.mono HBB.out.size)⟩
 go_upto_region 3 with fail
 clear xf0 xf1 xf2 xf3 xf4 xf5 xf6 xf7 xf8 xf9 xf10 xf11 xf12 xf13 xf14 xf15 xf16 xf17 xf18 xf19 xf20 xf21 xf22 xf23 xf24 xf25 xf26 xf27 xf28 xf29 xf30 xf31 xf32 xf33 xf34 xf35 xf36
 clear dl
 have hE:=HENV.out w4 HB4.out
 refine (z7s n ta _ w4 w4.heap.size hE.2.2.2.2.2.1 (Nat.le_refl _)).mono ?_
 obtain ⟨gw,hgw⟩ : ∃ g,decide (z18 n ta 6000 < 0) = g:=⟨_,rfl⟩
 rw [hgw]
 rintro e w5 ⟨rfl,hb5⟩
 have HB5 : Hid (Below WB.heap.size WB w5):=belS HB4.out hb5
 have Hgw:=Jh hgw
 clear hb5 hE hgw
 obtain ⟨xf0,xf1,xf2,xf3,xf4,xf5,xf6,xf7,xf8,xf9,xf10,xf11,xf12,xf13,xf14,xf15,xf16,xf17,xf18,xf19,xf20,xf21,xf22,xf23,xf24,xf25,xf26,xf27,xf28,xf29,xf30,xf31,xf32,xf33,xf34,xf35,xf36⟩:=HF.out w5 HB5.out
 rcases Bool.eq_false_or_eq_true gw with rfl | rfl
 ·skip
  go_wp2_with fail
  all_goals go_ret
  all_goals exact ⟨rfl,HBB.out.trans (HB5.out.mono HBB.out.size)⟩
 go_upto_region 3 with fail
 clear xf0 xf1 xf2 xf3 xf4 xf5 xf6 xf7 xf8 xf9 xf10 xf11 xf12 xf13 xf14 xf15 xf16 xf17 xf18 xf19 xf20 xf21 xf22 xf23 xf24 xf25 xf26 xf27 xf28 xf29 xf30 xf31 xf32 xf33 xf34 xf35 xf36
 have hE:=HENV.out w5 HB5.out
 refine (z7s n tb _ w5 w5.heap.size hE.2.2.2.2.2.2 (Nat.le_refl _)).mono ?_
 obtain ⟨gv,hgv⟩ : ∃ g,decide (z18 n tb 6000 < 0) = g:=⟨_,rfl⟩
 rw [hgv]
 rintro e w6 ⟨rfl,hb6⟩
 have HB6 : Hid (Below WB.heap.size WB w6):=belS HB5.out hb6
 have Hgv:=Jh hgv
 clear hb6 hE hgv
 obtain ⟨xf0,xf1,xf2,xf3,xf4,xf5,xf6,xf7,xf8,xf9,xf10,xf11,xf12,xf13,xf14,xf15,xf16,xf17,xf18,xf19,xf20,xf21,xf22,xf23,xf24,xf25,xf26,xf27,xf28,xf29,xf30,xf31,xf32,xf33,xf34,xf35,xf36⟩:=HF.out w6 HB6.out
 rcases Bool.eq_false_or_eq_true gv with rfl | rfl
 ·skip
  go_wp2_with fail
  all_goals go_ret
  all_goals exact ⟨rfl,HBB.out.trans (HB6.out.mono HBB.out.size)⟩
 have HOA : Hid (okT n ta):=z7j HRA.out (of_decide_eq_false Hgw.out)
 have HOB : Hid (okT n tb):=z7j HRB.out (of_decide_eq_false Hgv.out)
 have HMA : Hid (1 ≤ z0t n ta ∧ z0t n ta ≤ 6000):=z8w (HENV.out w6 HB6.out).2.2.2.2.2.1 (of_decide_eq_false Hgw.out)
 have HMB : Hid (1 ≤ z0t n tb ∧ z0t n tb ≤ 6000):=z8w (HENV.out w6 HB6.out).2.2.2.2.2.2 (of_decide_eq_false Hgv.out)
 have HNS:=Jh (z8z Hgn.out HNS0.out)
 clear Hgn Hgw Hgv HRA HRB HNS0
 go_upto_region 5 with fail
 clear xf0 xf1 xf2 xf3 xf4 xf5 xf6 xf7 xf8 xf9 xf10 xf11 xf12 xf13 xf14 xf15 xf16 xf17 xf18 xf19 xf20 xf21 xf22 xf23 xf24 xf25 xf26 xf27 xf28 xf29 xf30 xf31 xf32 xf33 xf34 xf35 xf36
 have hE:=HENV.out w6 HB6.out
 refine (z03 names _ _ HNS.out x _ l t  tp s  sp ta _ w6 hE.1 hE.2.1 hE.2.2.1 hE.2.2.2.2.1 hE.2.2.2.2.2.1 HOA.out HIT.out HIS.out).mono ?_
 obtain ⟨ans,hans⟩ : ∃ r,z0a names d x l (t,tp) (s,sp) n ta = r:=⟨_,rfl⟩
 rw [hans]
 obtain ⟨ra,ea⟩:=ans
 dsimp only
 rintro e w7 ⟨rfl,hbx⟩
 have HB7 : Hid (Below WB.heap.size WB w7):=belS HB6.out hbx
 have HAa:=Jh hans
 clear hbx hE hans
 obtain ⟨xf0,xf1,xf2,xf3,xf4,xf5,xf6,xf7,xf8,xf9,xf10,xf11,xf12,xf13,xf14,xf15,xf16,xf17,xf18,xf19,xf20,xf21,xf22,xf23,xf24,xf25,xf26,xf27,xf28,xf29,xf30,xf31,xf32,xf33,xf34,xf35,xf36⟩:=HF.out w7 HB7.out
 go_upto_region 6 with fail
 clear xf0 xf1 xf2 xf3 xf4 xf5 xf6 xf7 xf8 xf9 xf10 xf11 xf12 xf13 xf14 xf15 xf16 xf17 xf18 xf19 xf20 xf21 xf22 xf23 xf24 xf25 xf26 xf27 xf28 xf29 xf30 xf31 xf32 xf33 xf34 xf35 xf36
 have hE:=HENV.out w7 HB7.out
 refine (z03 names _ _ HNS.out y _ l s  sp u  up tb _ w7 hE.1 hE.2.1 hE.2.2.2.1 hE.2.2.2.2.1 hE.2.2.2.2.2.2 HOB.out HIS.out HIU.out).mono ?_
 obtain ⟨ans,hans⟩ : ∃ r,z0a names d y l (s,sp) (u,up) n tb = r:=⟨_,rfl⟩
 rw [hans]
 obtain ⟨rb,eb⟩:=ans
 dsimp only
 rintro e w8 ⟨rfl,hbx⟩
 have HB8 : Hid (Below WB.heap.size WB w8):=belS HB7.out hbx
 have HAb:=Jh hans
 clear hbx hE hans
 obtain ⟨xf0,xf1,xf2,xf3,xf4,xf5,xf6,xf7,xf8,xf9,xf10,xf11,xf12,xf13,xf14,xf15,xf16,xf17,xf18,xf19,xf20,xf21,xf22,xf23,xf24,xf25,xf26,xf27,xf28,xf29,xf30,xf31,xf32,xf33,xf34,xf35,xf36⟩:=HF.out w8 HB8.out
 go_upto_region 6 with fail
 clear xf0 xf1 xf2 xf3 xf4 xf5 xf6 xf7 xf8 xf9 xf10 xf11 xf12 xf13 xf14 xf15 xf16 xf17 xf18 xf19 xf20 xf21 xf22 xf23 xf24 xf25 xf26 xf27 xf28 xf29 xf30 xf31 xf32 xf33 xf34 xf35 xf36
 have HMX:=fun W (h : Below WB.heap.size WB W) => Jh (z4n m d x _ W (HENV.out W h).2.2.1)
 have HMY:=fun W (h : Below WB.heap.size WB W) => Jh (z4n m d y _ W (HENV.out W h).2.2.2.1)
 have HWA:=fun W (h : Below WB.heap.size WB W) => Jh (z7l n ta _ W W.heap.size (HENV.out W h).2.2.2.2.2.1 (Nat.le_refl _))
 have HWC:=fun W (h : Below WB.heap.size WB W) => Jh (z7l n tb _ W W.heap.size (HENV.out W h).2.2.2.2.2.2 (Nat.le_refl _))
 obtain ⟨mx,hmx⟩ : ∃ z,z10 d x = z:=⟨_,rfl⟩
 obtain ⟨my,hmy⟩ : ∃ z,z10 d y = z:=⟨_,rfl⟩
 obtain ⟨ma,hma⟩ : ∃ z,z0t n ta = z:=⟨_,rfl⟩
 obtain ⟨mb,hmb⟩ : ∃ z,z0t n tb = z:=⟨_,rfl⟩
 rw [hmx] at HMX
 rw [hmy] at HMY
 rw [hma] at HWA
 rw [hmb] at HWC
 have HMXE:=Jh hmx
 have HMYE:=Jh hmy
 have HMAE:=Jh hma
 have HMBE:=Jh hmb
 clear hmx hmy hma hmb
 obtain ⟨sm,hsm⟩ : ∃ z,wrap64 (mx + my) = z:=⟨_,rfl⟩
 have v1 : IntKind.i64.wrap (mx + my) = sm:=(IntWalk.i64_left _).trans hsm
 obtain ⟨sw,hsw⟩ : ∃ z,wrap64 (ma + mb) = z:=⟨_,rfl⟩
 have v2 : IntKind.i64.wrap (ma + mb) = sw:=(IntWalk.i64_left _).trans hsw
 have HSM:=Jh hsm
 have HSW:=Jh hsw
 have hsm':=hsm
 have hsw':=hsw
 clear hsm hsw
 by_cases h0 : ea = 0
 rotate_left
 ·have d0 : (ea != 0) = true:=by simpa using h0
  clear h0
  refine wrd (by kernel_rfl) HF.out ((HB8.out).drew) (fun hHeld => ?_)
  refine z00 (f:=0) (by kernel_rfl) (by assumption) [(0,true),(1,true),(2,true),(3,false),(4,false),(5,true),(6,true),(7,false),(9,false),(8,false),(10,false),(11,false),(12,false),(13,true),(14,true),(15,false),(17,false),(16,false),(18,false),(19,false),(20,false),(21,true)] rfl (by kernel_rfl) ?_
  repeat (first | (refine SeqH.skip rfl (fun _ _ _ h => h) (by kernel_rfl) ?_; (try simp only [Act.put,J1,J2,J3,J4,J5,J6])) | (refine SeqH.take (v:=?_) rfl (fun _ _ _ h => h) (by kernel_rfl) ?_ ?_; rotate_left; (· (intro w hSw; (try dsimp only at hSw); go_simp) <;> with_reducible rfl); (try simp only [Act.put,J1,J2,J3,J4,J5,J6])))
  refine SeqH.nil ?_
  refine wpAnyH_done (by kernel_rfl) ?_ _
  clear hHeld
  go_wp2_with fail
  all_goals go_ret
  all_goals exact ⟨rfl,HBB.out.trans (HB8.out.drew.mono HBB.out.size)⟩
 subst h0
 by_cases h1 : eb = 0
 rotate_left
 ·have d1 : (eb != 0) = true:=by simpa using h1
  clear h1
  refine wrd (by kernel_rfl) HF.out ((HB8.out).drew) (fun hHeld => ?_)
  refine z00 (f:=0) (by kernel_rfl) (by assumption) [(0,true),(1,true),(2,true),(3,true),(4,true),(5,true),(6,true),(7,false),(9,false),(8,false),(10,false),(11,false),(12,false),(13,true),(14,true),(15,false),(17,false),(16,false),(18,false),(19,false),(20,false),(21,true)] rfl (by kernel_rfl) ?_
  repeat (first | (refine SeqH.skip rfl (fun _ _ _ h => h) (by kernel_rfl) ?_; (try simp only [Act.put,J1,J2,J3,J4,J5,J6])) | (refine SeqH.take (v:=?_) rfl (fun _ _ _ h => h) (by kernel_rfl) ?_ ?_; rotate_left; (· (intro w hSw; (try dsimp only at hSw); go_simp) <;> with_reducible rfl); (try simp only [Act.put,J1,J2,J3,J4,J5,J6])))
  refine SeqH.nil ?_
  refine wpAnyH_done (by kernel_rfl) ?_ _
  clear hHeld
  go_wp2_with fail
  all_goals go_ret
  all_goals exact ⟨rfl,HBB.out.trans (HB8.out.drew.mono HBB.out.size)⟩
 subst h1
 by_cases d64 : (64 : Int) ≤ sm
 ·have d64' : decide ((64 : Int) ≤ sm) = true:=decide_eq_true d64
  refine wrd (by kernel_rfl) HF.out ((HB8.out).drew) (fun hHeld => ?_)
  refine z00 (f:=13) (by kernel_rfl) (by assumption) [(0,true),(1,true),(2,true),(3,true),(4,true),(5,true),(6,true),(7,true),(9,true)] rfl (by kernel_rfl) ?_
  repeat (refine SeqH.take (v:=?_) rfl (fun _ _ _ h => h) (by kernel_rfl) ?_ ?_; rotate_left; (· (intro w hSw; (try dsimp only at hSw); go_simp) <;> with_reducible rfl); (try simp only [Act.put,J1,J2,J3,J4,J5,J6]))
  refine SeqH.nil ?_
  refine Jr (rs:=[8]) (by kernel_rfl) (by simp) ?_
  refine Jd rfl (fun K hK => ?_) Je
  go_simp
  go_at_call 33
  refine (HMX _ (HB8.out.drew)).out.mono ?_
  rintro e w9 ⟨rfl,hb9⟩
  have HB9 : Hid (Below WB.heap.size WB w9):=belS (HB8.out.drew) hb9
  clear hb9
  try dsimp only
  refine hK.out _ _ (HF.out _ HB9.out) (fun hHeld => ?_)
  clear hK K
  try simp only [Act.put,J1,J2,J3,J4,J5,J6]
  refine Jr (rs:=[10]) (by kernel_rfl) (by simp) ?_
  refine Jd rfl (fun K hK => ?_) Je
  go_simp
  go_at_call 33
  refine (HMY _ HB9.out).out.mono ?_
  rintro e w10 ⟨rfl,hb10⟩
  have HB10 : Hid (Below WB.heap.size WB w10):=belS (HB9.out) hb10
  clear hb10
  try dsimp only
  refine hK.out _ _ (HF.out _ HB10.out) (fun hHeld => ?_)
  clear hK K
  try simp only [Act.put,J1,J2,J3,J4,J5,J6]
  refine z00 (f:=0) (by kernel_rfl) (by assumption) [(11,true),(12,true),(13,true),(14,true),(15,false),(17,false),(16,false),(18,false),(19,false),(20,false),(21,true)] rfl (by kernel_rfl) ?_
  repeat (first | (refine SeqH.skip rfl (fun _ _ _ h => h) (by kernel_rfl) ?_; (try simp only [Act.put,J1,J2,J3,J4,J5,J6])) | (refine SeqH.take (v:=?_) rfl (fun _ _ _ h => h) (by kernel_rfl) ?_ ?_; rotate_left; (· (intro w hSw; (try dsimp only at hSw); go_simp) <;> with_reducible rfl); (try simp only [Act.put,J1,J2,J3,J4,J5,J6])))
  refine SeqH.nil ?_
  refine wpAnyH_done (by kernel_rfl) ?_ _
  clear hHeld
  go_wp2_with fail
  all_goals go_ret
  all_goals exact ⟨rfl,HBB.out.trans (HB10.out.mono HBB.out.size)⟩
 by_cases d4 : (4096 : Int) ≤ sw
 ·skip
  refine wrd (by kernel_rfl) HF.out ((HB8.out).drew) (fun hHeld => ?_)
  refine z00 (f:=13) (by kernel_rfl) (by assumption) [(0,true),(1,true),(2,true),(3,true),(4,true),(5,true),(6,true),(7,true),(9,true)] rfl (by kernel_rfl) ?_
  repeat (refine SeqH.take (v:=?_) rfl (fun _ _ _ h => h) (by kernel_rfl) ?_ ?_; rotate_left; (· (intro w hSw; (try dsimp only at hSw); go_simp) <;> with_reducible rfl); (try simp only [Act.put,J1,J2,J3,J4,J5,J6]))
  refine SeqH.nil ?_
  refine Jr (rs:=[8]) (by kernel_rfl) (by simp) ?_
  refine Jd rfl (fun K hK => ?_) Je
  go_simp
  go_at_call 33
  refine (HMX _ (HB8.out.drew)).out.mono ?_
  rintro e w9 ⟨rfl,hb9⟩
  have HB9 : Hid (Below WB.heap.size WB w9):=belS (HB8.out.drew) hb9
  clear hb9
  try dsimp only
  refine hK.out _ _ (HF.out _ HB9.out) (fun hHeld => ?_)
  clear hK K
  try simp only [Act.put,J1,J2,J3,J4,J5,J6]
  refine Jr (rs:=[10]) (by kernel_rfl) (by simp) ?_
  refine Jd rfl (fun K hK => ?_) Je
  go_simp
  go_at_call 33
  refine (HMY _ HB9.out).out.mono ?_
  rintro e w10 ⟨rfl,hb10⟩
  have HB10 : Hid (Below WB.heap.size WB w10):=belS (HB9.out) hb10
  clear hb10
  try dsimp only
  refine hK.out _ _ (HF.out _ HB10.out) (fun hHeld => ?_)
  clear hK K
  try simp only [Act.put,J1,J2,J3,J4,J5,J6]
  refine z00 (f:=5) (by kernel_rfl) (by assumption) [(11,true),(12,true),(13,true),(14,true),(15,true),(17,true)] rfl (by kernel_rfl) ?_
  repeat (refine SeqH.take (v:=?_) rfl (fun _ _ _ h => h) (by kernel_rfl) ?_ ?_; rotate_left; (· (intro w hSw; (try dsimp only at hSw); go_simp) <;> with_reducible rfl); (try simp only [Act.put,J1,J2,J3,J4,J5,J6]))
  refine SeqH.nil ?_
  refine Jr (rs:=[16]) (by kernel_rfl) (by simp) ?_
  refine Jd rfl (fun K hK => ?_) Je
  go_simp
  go_at_call 31
  refine (HWA _ (HB10.out)).out.mono ?_
  rintro e w11 ⟨rfl,hb11⟩
  have HB11 : Hid (Below WB.heap.size WB w11):=belS (HB10.out) hb11
  clear hb11
  try dsimp only
  refine hK.out _ _ (HF.out _ HB11.out) (fun hHeld => ?_)
  clear hK K
  try simp only [Act.put,J1,J2,J3,J4,J5,J6]
  refine Jr (rs:=[18]) (by kernel_rfl) (by simp) ?_
  refine Jd rfl (fun K hK => ?_) Je
  go_simp
  go_at_call 31
  refine (HWC _ HB11.out).out.mono ?_
  rintro e w12 ⟨rfl,hb12⟩
  have HB12 : Hid (Below WB.heap.size WB w12):=belS (HB11.out) hb12
  clear hb12
  try dsimp only
  refine hK.out _ _ (HF.out _ HB12.out) (fun hHeld => ?_)
  clear hK K
  try simp only [Act.put,J1,J2,J3,J4,J5,J6]
  refine z00 (f:=0) (by kernel_rfl) (by assumption) [(19,true),(20,true),(21,true)] rfl (by kernel_rfl) ?_
  repeat (refine SeqH.take (v:=?_) rfl (fun _ _ _ h => h) (by kernel_rfl) ?_ ?_; rotate_left; (· (intro w hSw; (try dsimp only at hSw); go_simp) <;> with_reducible rfl); (try simp only [Act.put,J1,J2,J3,J4,J5,J6]))
  refine SeqH.nil ?_
  refine wpAnyH_done (by kernel_rfl) ?_ _
  clear hHeld
  go_wp2_with fail
  all_goals go_ret
  all_goals exact ⟨rfl,HBB.out.trans (HB12.out.mono HBB.out.size)⟩
 refine wrd (by kernel_rfl) HF.out ((HB8.out).drew) (fun hHeld => ?_)
 refine z00 (f:=13) (by kernel_rfl) (by assumption) [(0,true),(1,true),(2,true),(3,true),(4,true),(5,true),(6,true),(7,true),(9,true)] rfl (by kernel_rfl) ?_
 repeat (refine SeqH.take (v:=?_) rfl (fun _ _ _ h => h) (by kernel_rfl) ?_ ?_; rotate_left; (· (intro w hSw; (try dsimp only at hSw); go_simp) <;> with_reducible rfl); (try simp only [Act.put,J1,J2,J3,J4,J5,J6]))
 refine SeqH.nil ?_
 refine Jr (rs:=[8]) (by kernel_rfl) (by simp) ?_
 refine Jd rfl (fun K hK => ?_) Je
 go_simp
 go_at_call 33
 refine (HMX _ (HB8.out.drew)).out.mono ?_
 rintro e w9 ⟨rfl,hb9⟩
 have HB9 : Hid (Below WB.heap.size WB w9):=belS (HB8.out.drew) hb9
 clear hb9
 try dsimp only
 refine hK.out _ _ (HF.out _ HB9.out) (fun hHeld => ?_)
 clear hK K
 try simp only [Act.put,J1,J2,J3,J4,J5,J6]
 refine Jr (rs:=[10]) (by kernel_rfl) (by simp) ?_
 refine Jd rfl (fun K hK => ?_) Je
 go_simp
 go_at_call 33
 refine (HMY _ HB9.out).out.mono ?_
 rintro e w10 ⟨rfl,hb10⟩
 have HB10 : Hid (Below WB.heap.size WB w10):=belS (HB9.out) hb10
 clear hb10
 try dsimp only
 refine hK.out _ _ (HF.out _ HB10.out) (fun hHeld => ?_)
 clear hK K
 try simp only [Act.put,J1,J2,J3,J4,J5,J6]
 refine z00 (f:=5) (by kernel_rfl) (by assumption) [(11,true),(12,true),(13,true),(14,true),(15,true),(17,true)] rfl (by kernel_rfl) ?_
 repeat (refine SeqH.take (v:=?_) rfl (fun _ _ _ h => h) (by kernel_rfl) ?_ ?_; rotate_left; (· (intro w hSw; (try dsimp only at hSw); go_simp) <;> with_reducible rfl); (try simp only [Act.put,J1,J2,J3,J4,J5,J6]))
 refine SeqH.nil ?_
 refine Jr (rs:=[16]) (by kernel_rfl) (by simp) ?_
 refine Jd rfl (fun K hK => ?_) Je
 go_simp
 go_at_call 31
 refine (HWA _ (HB10.out)).out.mono ?_
 rintro e w11 ⟨rfl,hb11⟩
 have HB11 : Hid (Below WB.heap.size WB w11):=belS (HB10.out) hb11
 clear hb11
 try dsimp only
 refine hK.out _ _ (HF.out _ HB11.out) (fun hHeld => ?_)
 clear hK K
 try simp only [Act.put,J1,J2,J3,J4,J5,J6]
 refine Jr (rs:=[18]) (by kernel_rfl) (by simp) ?_
 refine Jd rfl (fun K hK => ?_) Je
 go_simp
 go_at_call 31
 refine (HWC _ HB11.out).out.mono ?_
 rintro e w12 ⟨rfl,hb12⟩
 have HB12 : Hid (Below WB.heap.size WB w12):=belS (HB11.out) hb12
 clear hb12
 try dsimp only
 refine hK.out _ _ (HF.out _ HB12.out) (fun hHeld => ?_)
 clear hK K
 try simp only [Act.put,J1,J2,J3,J4,J5,J6]
 refine z00 (f:=0) (by kernel_rfl) (by assumption) [(19,true),(20,true),(21,true)] rfl (by kernel_rfl) ?_
 repeat (refine SeqH.take (v:=?_) rfl (fun _ _ _ h => h) (by kernel_rfl) ?_ ?_; rotate_left; (· (intro w hSw; (try dsimp only at hSw); go_simp) <;> with_reducible rfl); (try simp only [Act.put,J1,J2,J3,J4,J5,J6]))
 refine SeqH.nil ?_
 refine wpAnyH_done (by kernel_rfl) ?_ _
 clear hHeld
 have HPL : Hid (∀ sa,z0a names d x l (s,sp) (u,up) n tb = (sa,0) → _):=fun sa h => joins_plain HAa.out HAb.out h HMA.out HMB.out (z56 HBX.out (of_decide_eq_false Hgx.out) (z15 HAa.out).1) (z56 HBY.out (of_decide_eq_false Hgy.out) (z15 HAb.out).1) (by rw [HMXE.out,HMYE.out,HSM.out]; exact d64) (by rw [HMAE.out,HMBE.out,HSW.out]; exact d4)
 have HSA:=Jh (wCheck_else HAa.out HAb.out)
 obtain ⟨sa,hsa⟩ : ∃ z,z05 (z0v names m) l n (toX d x) (s,sp) (u,up) tb = z:=⟨_,rfl⟩
 rw [hsa] at HSA
 obtain ⟨p1,p2,p3,p4⟩:=HPL.out sa HSA.out
 obtain ⟨c,hc⟩ : ∃ c,cmpE (t,tp) (s,sp) = c:=⟨_,rfl⟩
 obtain ⟨c2,hc2⟩ : ∃ c,cmpE (s,sp) (u,up) = c:=⟨_,rfl⟩
 have HCM:=fun W => Jh (z7z t tp s sp W HIT.out HIS.out)
 have HCN:=fun W => Jh (z7z s sp u up W HIS.out HIU.out)
 rw [hc] at p1 p2 HCM
 rw [hc2] at p1 p2 HCN
 rw [p3] at HCM
 rw [p4] at HCN
 have HP1:=Jh p1
 have HP2:=Jh p2
 clear p1 p2 p3 p4 hc hc2 hsa HPL d64 d4 v1 v2 hsm' hsw' HSM HSW HMXE HMYE HMAE HMBE HMX HMY HWA HWC HBX HBY Hgx Hgy HMA HMB HLM HAa HAb
 obtain ⟨xf0,xf1,xf2,xf3,xf4,xf5,xf6,xf7,xf8,xf9,xf10,xf11,xf12,xf13,xf14,xf15,xf16,xf17,xf18,xf19,xf20,xf21,xf22,xf23,xf24,xf25,xf26,xf27,xf28,xf29,xf30,xf31,xf32,xf33,xf34,xf35,xf36⟩:=HF.out w12 HB12.out
 go_upto_region 9 with fail
 refine (HCM w12).out.mono ?_
 rintro e w13 ⟨rfl,hbx⟩
 have HB13 : Hid (Below WB.heap.size WB w13):=belS HB12.out hbx
 clear hbx HCM
 clear xf0 xf1 xf2 xf3 xf4 xf5 xf6 xf7 xf8 xf9 xf10 xf11 xf12 xf13 xf14 xf15 xf16 xf17 xf18 xf19 xf20 xf21 xf22 xf23 xf24 xf25 xf26 xf27 xf28 xf29 xf30 xf31 xf32 xf33 xf34 xf35 xf36
 obtain ⟨xf0,xf1,xf2,xf3,xf4,xf5,xf6,xf7,xf8,xf9,xf10,xf11,xf12,xf13,xf14,xf15,xf16,xf17,xf18,xf19,xf20,xf21,xf22,xf23,xf24,xf25,xf26,xf27,xf28,xf29,xf30,xf31,xf32,xf33,xf34,xf35,xf36⟩:=HF.out w13 HB13.out
 go_upto_region 10 with fail
 refine (HCN w13).out.mono ?_
 rintro e w14 ⟨rfl,hbx⟩
 have HB14 : Hid (Below WB.heap.size WB w14):=belS HB13.out hbx
 clear hbx HCN
 clear xf0 xf1 xf2 xf3 xf4 xf5 xf6 xf7 xf8 xf9 xf10 xf11 xf12 xf13 xf14 xf15 xf16 xf17 xf18 xf19 xf20 xf21 xf22 xf23 xf24 xf25 xf26 xf27 xf28 xf29 xf30 xf31 xf32 xf33 xf34 xf35 xf36
 obtain ⟨xf0,xf1,xf2,xf3,xf4,xf5,xf6,xf7,xf8,xf9,xf10,xf11,xf12,xf13,xf14,xf15,xf16,xf17,xf18,xf19,xf20,xf21,xf22,xf23,xf24,xf25,xf26,xf27,xf28,xf29,xf30,xf31,xf32,xf33,xf34,xf35,xf36⟩:=HF.out w14 HB14.out
 go_upto_region 11 with fail
 obtain ⟨W15,hW15⟩ : ∃ W,W = ((w14.alloc (.cells #[.int .u8 kx,.slice a1x n1x c1x,.slice a2x n2x c2x,.int .i64 lox,.bool lsx,.int .i64 hix,.bool hsx,.bool opx,.int .u8 ky,.slice a1y n1y c1y,.slice a2y n2y c2y,.int .i64 loy,.bool lsy,.int .i64 hiy,.bool hsy,.bool opy] 47)).alloc (.cells #[.int .i64 s,.int .i64 sp] 50)).alloc (.cells #[.int .u8 wka,.int .u8 sda,.slice a3a l3a c3a,.slice a4a l4a c4a,.int .u8 wkb,.int .u8 sdb,.slice a3b l3b c3b,.slice a4b l4b c4b] 56):=⟨_,rfl⟩
 rw [← hW15]
 have hb15 : Below w14.heap.size w14 W15:=by rw [hW15]; exact ((z08 _ _).alloc (by simp) _).alloc (by simp <;> omega) _
 have hB15:=belS HB14.out hb15
 have hk0 : W15.heap[w14.heap.size]? = some (.cells #[.int .u8 kx,.slice a1x n1x c1x,.slice a2x n2x c2x,.int .i64 lox,.bool lsx,.int .i64 hix,.bool hsx,.bool opx,.int .u8 ky,.slice a1y n1y c1y,.slice a2y n2y c2y,.int .i64 loy,.bool lsy,.int .i64 hiy,.bool hsy,.bool opy] 47 (0,0)):=by rw [hW15]; exact (Jb _ _ _ (by simp <;> omega)).trans ((Jb _ _ _ (by simp)).trans (z01 rfl))
 have hk1 : W15.heap[w14.heap.size + 1]? = some (.cells #[.int .i64 s,.int .i64 sp] 50 (0,0)):=by rw [hW15]; exact (Jb _ _ _ (by simp <;> omega)).trans (z01 (by simp))
 have hk2 : W15.heap[w14.heap.size + 1 + 1]? = some (.cells #[.int .u8 wka,.int .u8 sda,.slice a3a l3a c3a,.slice a4a l4a c4a,.int .u8 wkb,.int .u8 sdb,.slice a3b l3b c3b,.slice a4b l4b c4b] 56 (0,0)):=by rw [hW15]; exact z01 (by simp)
 have hE:=HENV.out W15 hB15
 have hok : okT (n + 1) ((4,0,[(s,sp)],[ta,tb]) : PT (n + 1)):=ok_two HIS.out HOA.out HOB.out
 refine (z03 (m:=m) (d:=d + 1) (n:=n + 1) names _ _ HNS.out (((4,[],[x,y],z06) : XT m (d + 1))) _ l t tp u up ((4,0,[(s,sp)],[ta,tb]) : PT (n + 1)) _ W15 hE.1 hE.2.1 (z9s 4 z06 hk0 hE.2.2.1 hE.2.2.2.1 2) hE.2.2.2.2.1 (z4y 4 0 hk2 hE.2.2.2.2.2.1 hE.2.2.2.2.2.2 (z63 hk1 1) 2) hok HIT.out HIU.out).mono ?_
 rw [HP1.out]
 dsimp only
 rintro e w16 ⟨rfl,hbx⟩
 have HB16 : Hid (Below WB.heap.size WB w16):=belS hB15 hbx
 clear hW15 hb15 hB15 hk0 hk1 hk2 hE hok hbx HP1
 clear xf0 xf1 xf2 xf3 xf4 xf5 xf6 xf7 xf8 xf9 xf10 xf11 xf12 xf13 xf14 xf15 xf16 xf17 xf18 xf19 xf20 xf21 xf22 xf23 xf24 xf25 xf26 xf27 xf28 xf29 xf30 xf31 xf32 xf33 xf34 xf35 xf36
 cases ra
 ·skip
  obtain ⟨xf0,xf1,xf2,xf3,xf4,xf5,xf6,xf7,xf8,xf9,xf10,xf11,xf12,xf13,xf14,xf15,xf16,xf17,xf18,xf19,xf20,xf21,xf22,xf23,xf24,xf25,xf26,xf27,xf28,xf29,xf30,xf31,xf32,xf33,xf34,xf35,xf36⟩:=HF.out w16 HB16.out
  go_upto_region 14 with fail
  clear xf0 xf1 xf2 xf3 xf4 xf5 xf6 xf7 xf8 xf9 xf10 xf11 xf12 xf13 xf14 xf15 xf16 xf17 xf18 xf19 xf20 xf21 xf22 xf23 xf24 xf25 xf26 xf27 xf28 xf29 xf30 xf31 xf32 xf33 xf34 xf35 xf36
  have hE:=HENV.out w16 HB16.out
  refine (z03 names _ _ HNS.out x _ l s sp u up tb _ w16 hE.1 hE.2.1 hE.2.2.1 hE.2.2.2.2.1 hE.2.2.2.2.2.2 HOB.out HIS.out HIU.out).mono ?_
  rw [HSA.out]
  dsimp only
  rintro e w17 ⟨rfl,hbx⟩
  have HB17 : Hid (Below WB.heap.size WB w17):=belS HB16.out hbx
  clear hbx hE HSA
  obtain ⟨xf0,xf1,xf2,xf3,xf4,xf5,xf6,xf7,xf8,xf9,xf10,xf11,xf12,xf13,xf14,xf15,xf16,xf17,xf18,xf19,xf20,xf21,xf22,xf23,xf24,xf25,xf26,xf27,xf28,xf29,xf30,xf31,xf32,xf33,xf34,xf35,xf36⟩:=HF.out w17 HB17.out
  go_upto_region 15 with fail
  obtain ⟨W18,hW18⟩ : ∃ W,W = ((w17.alloc (.cells #[.int .u8 kx,.slice a1x n1x c1x,.slice a2x n2x c2x,.int .i64 lox,.bool lsx,.int .i64 hix,.bool hsx,.bool opx] 47)).alloc (.cells #[.int .i64 s,.int .i64 sp] 50)).alloc (.cells #[.int .u8 wka,.int .u8 sda,.slice a3a l3a c3a,.slice a4a l4a c4a,.int .u8 wkb,.int .u8 sdb,.slice a3b l3b c3b,.slice a4b l4b c4b] 56):=⟨_,rfl⟩
  rw [← hW18]
  have hb18 : Below w17.heap.size w17 W18:=by rw [hW18]; exact ((z08 _ _).alloc (by simp) _).alloc (by simp <;> omega) _
  have hB18:=belS HB17.out hb18
  have hk0 : W18.heap[w17.heap.size]? = some (.cells #[.int .u8 kx,.slice a1x n1x c1x,.slice a2x n2x c2x,.int .i64 lox,.bool lsx,.int .i64 hix,.bool hsx,.bool opx] 47 (0,0)):=by rw [hW18]; exact (Jb _ _ _ (by simp <;> omega)).trans ((Jb _ _ _ (by simp)).trans (z01 rfl))
  have hk1 : W18.heap[w17.heap.size + 1]? = some (.cells #[.int .i64 s,.int .i64 sp] 50 (0,0)):=by rw [hW18]; exact (Jb _ _ _ (by simp <;> omega)).trans (z01 (by simp))
  have hk2 : W18.heap[w17.heap.size + 1 + 1]? = some (.cells #[.int .u8 wka,.int .u8 sda,.slice a3a l3a c3a,.slice a4a l4a c4a,.int .u8 wkb,.int .u8 sdb,.slice a3b l3b c3b,.slice a4b l4b c4b] 56 (0,0)):=by rw [hW18]; exact z01 (by simp)
  have hE:=HENV.out W18 hB18
  have hok : okT (n + 1) ((5,0,[(s,sp)],[ta,tb]) : PT (n + 1)):=ok_two HIS.out HOA.out HOB.out
  refine (z03 (m:=m) (d:=d + 1) (n:=n + 1) names _ _ HNS.out (((5,[],[x],z06) : XT m (d + 1))) _ l t tp u up ((5,0,[(s,sp)],[ta,tb]) : PT (n + 1)) _ W18 hE.1 hE.2.1 (z41 5 z06 hk0 hE.2.2.1 1) hE.2.2.2.2.1 (z4y 5 0 hk2 hE.2.2.2.2.2.1 hE.2.2.2.2.2.2 (z63 hk1 1) 2) hok HIT.out HIU.out).mono ?_
  rw [HP2.out]
  dsimp only
  rintro e w19 ⟨rfl,hbx⟩
  have HB19 : Hid (Below WB.heap.size WB w19):=belS hB18 hbx
  clear hW18 hb18 hB18 hk0 hk1 hk2 hE hok hbx HP2
  clear xf0 xf1 xf2 xf3 xf4 xf5 xf6 xf7 xf8 xf9 xf10 xf11 xf12 xf13 xf14 xf15 xf16 xf17 xf18 xf19 xf20 xf21 xf22 xf23 xf24 xf25 xf26 xf27 xf28 xf29 xf30 xf31 xf32 xf33 xf34 xf35 xf36
  obtain ⟨xf0,xf1,xf2,xf3,xf4,xf5,xf6,xf7,xf8,xf9,xf10,xf11,xf12,xf13,xf14,xf15,xf16,xf17,xf18,xf19,xf20,xf21,xf22,xf23,xf24,xf25,xf26,xf27,xf28,xf29,xf30,xf31,xf32,xf33,xf34,xf35,xf36⟩:=HF.out w19 HB19.out
  go_wp2_with fail
  all_goals go_ret
  all_goals exact ⟨rfl,HBB.out.trans (HB19.out.mono HBB.out.size)⟩
 ·cases rb
  rotate_left
  ·by_cases hc0 : c < 0
   rotate_left
   ·skip
    obtain ⟨xf0,xf1,xf2,xf3,xf4,xf5,xf6,xf7,xf8,xf9,xf10,xf11,xf12,xf13,xf14,xf15,xf16,xf17,xf18,xf19,xf20,xf21,xf22,xf23,xf24,xf25,xf26,xf27,xf28,xf29,xf30,xf31,xf32,xf33,xf34,xf35,xf36⟩:=HF.out w16 HB16.out
    go_upto_region 14 with fail
    clear xf0 xf1 xf2 xf3 xf4 xf5 xf6 xf7 xf8 xf9 xf10 xf11 xf12 xf13 xf14 xf15 xf16 xf17 xf18 xf19 xf20 xf21 xf22 xf23 xf24 xf25 xf26 xf27 xf28 xf29 xf30 xf31 xf32 xf33 xf34 xf35 xf36
    have hE:=HENV.out w16 HB16.out
    refine (z03 names _ _ HNS.out x _ l s sp u up tb _ w16 hE.1 hE.2.1 hE.2.2.1 hE.2.2.2.2.1 hE.2.2.2.2.2.2 HOB.out HIS.out HIU.out).mono ?_
    rw [HSA.out]
    dsimp only
    rintro e w17 ⟨rfl,hbx⟩
    have HB17 : Hid (Below WB.heap.size WB w17):=belS HB16.out hbx
    clear hbx hE HSA
    obtain ⟨xf0,xf1,xf2,xf3,xf4,xf5,xf6,xf7,xf8,xf9,xf10,xf11,xf12,xf13,xf14,xf15,xf16,xf17,xf18,xf19,xf20,xf21,xf22,xf23,xf24,xf25,xf26,xf27,xf28,xf29,xf30,xf31,xf32,xf33,xf34,xf35,xf36⟩:=HF.out w17 HB17.out
    go_upto_region 15 with fail
    obtain ⟨W18,hW18⟩ : ∃ W,W = ((w17.alloc (.cells #[.int .u8 kx,.slice a1x n1x c1x,.slice a2x n2x c2x,.int .i64 lox,.bool lsx,.int .i64 hix,.bool hsx,.bool opx] 47)).alloc (.cells #[.int .i64 s,.int .i64 sp] 50)).alloc (.cells #[.int .u8 wka,.int .u8 sda,.slice a3a l3a c3a,.slice a4a l4a c4a,.int .u8 wkb,.int .u8 sdb,.slice a3b l3b c3b,.slice a4b l4b c4b] 56):=⟨_,rfl⟩
    rw [← hW18]
    have hb18 : Below w17.heap.size w17 W18:=by rw [hW18]; exact ((z08 _ _).alloc (by simp) _).alloc (by simp <;> omega) _
    have hB18:=belS HB17.out hb18
    have hk0 : W18.heap[w17.heap.size]? = some (.cells #[.int .u8 kx,.slice a1x n1x c1x,.slice a2x n2x c2x,.int .i64 lox,.bool lsx,.int .i64 hix,.bool hsx,.bool opx] 47 (0,0)):=by rw [hW18]; exact (Jb _ _ _ (by simp <;> omega)).trans ((Jb _ _ _ (by simp)).trans (z01 rfl))
    have hk1 : W18.heap[w17.heap.size + 1]? = some (.cells #[.int .i64 s,.int .i64 sp] 50 (0,0)):=by rw [hW18]; exact (Jb _ _ _ (by simp <;> omega)).trans (z01 (by simp))
    have hk2 : W18.heap[w17.heap.size + 1 + 1]? = some (.cells #[.int .u8 wka,.int .u8 sda,.slice a3a l3a c3a,.slice a4a l4a c4a,.int .u8 wkb,.int .u8 sdb,.slice a3b l3b c3b,.slice a4b l4b c4b] 56 (0,0)):=by rw [hW18]; exact z01 (by simp)
    have hE:=HENV.out W18 hB18
    have hok : okT (n + 1) ((5,0,[(s,sp)],[ta,tb]) : PT (n + 1)):=ok_two HIS.out HOA.out HOB.out
    refine (z03 (m:=m) (d:=d + 1) (n:=n + 1) names _ _ HNS.out (((5,[],[x],z06) : XT m (d + 1))) _ l t tp u up ((5,0,[(s,sp)],[ta,tb]) : PT (n + 1)) _ W18 hE.1 hE.2.1 (z41 5 z06 hk0 hE.2.2.1 1) hE.2.2.2.2.1 (z4y 5 0 hk2 hE.2.2.2.2.2.1 hE.2.2.2.2.2.2 (z63 hk1 1) 2) hok HIT.out HIU.out).mono ?_
    rw [HP2.out]
    dsimp only
    rintro e w19 ⟨rfl,hbx⟩
    have HB19 : Hid (Below WB.heap.size WB w19):=belS hB18 hbx
    clear hW18 hb18 hB18 hk0 hk1 hk2 hE hok hbx HP2
    clear xf0 xf1 xf2 xf3 xf4 xf5 xf6 xf7 xf8 xf9 xf10 xf11 xf12 xf13 xf14 xf15 xf16 xf17 xf18 xf19 xf20 xf21 xf22 xf23 xf24 xf25 xf26 xf27 xf28 xf29 xf30 xf31 xf32 xf33 xf34 xf35 xf36
    obtain ⟨xf0,xf1,xf2,xf3,xf4,xf5,xf6,xf7,xf8,xf9,xf10,xf11,xf12,xf13,xf14,xf15,xf16,xf17,xf18,xf19,xf20,xf21,xf22,xf23,xf24,xf25,xf26,xf27,xf28,xf29,xf30,xf31,xf32,xf33,xf34,xf35,xf36⟩:=HF.out w19 HB19.out
    cases sa
    all_goals skip
    ·skip
     go_wp2_with fail
     all_goals go_ret
     all_goals exact ⟨rfl,HBB.out.trans (HB19.out.mono HBB.out.size)⟩
    ·skip
     go_wp2_with fail
     all_goals go_ret
     all_goals exact ⟨rfl,HBB.out.trans (HB19.out.mono HBB.out.size)⟩
   ·by_cases hc1 : c2 < 0
    rotate_left
    ·skip
     obtain ⟨xf0,xf1,xf2,xf3,xf4,xf5,xf6,xf7,xf8,xf9,xf10,xf11,xf12,xf13,xf14,xf15,xf16,xf17,xf18,xf19,xf20,xf21,xf22,xf23,xf24,xf25,xf26,xf27,xf28,xf29,xf30,xf31,xf32,xf33,xf34,xf35,xf36⟩:=HF.out w16 HB16.out
     go_upto_region 14 with fail
     clear xf0 xf1 xf2 xf3 xf4 xf5 xf6 xf7 xf8 xf9 xf10 xf11 xf12 xf13 xf14 xf15 xf16 xf17 xf18 xf19 xf20 xf21 xf22 xf23 xf24 xf25 xf26 xf27 xf28 xf29 xf30 xf31 xf32 xf33 xf34 xf35 xf36
     have hE:=HENV.out w16 HB16.out
     refine (z03 names _ _ HNS.out x _ l s sp u up tb _ w16 hE.1 hE.2.1 hE.2.2.1 hE.2.2.2.2.1 hE.2.2.2.2.2.2 HOB.out HIS.out HIU.out).mono ?_
     rw [HSA.out]
     dsimp only
     rintro e w17 ⟨rfl,hbx⟩
     have HB17 : Hid (Below WB.heap.size WB w17):=belS HB16.out hbx
     clear hbx hE HSA
     obtain ⟨xf0,xf1,xf2,xf3,xf4,xf5,xf6,xf7,xf8,xf9,xf10,xf11,xf12,xf13,xf14,xf15,xf16,xf17,xf18,xf19,xf20,xf21,xf22,xf23,xf24,xf25,xf26,xf27,xf28,xf29,xf30,xf31,xf32,xf33,xf34,xf35,xf36⟩:=HF.out w17 HB17.out
     go_upto_region 15 with fail
     obtain ⟨W18,hW18⟩ : ∃ W,W = ((w17.alloc (.cells #[.int .u8 kx,.slice a1x n1x c1x,.slice a2x n2x c2x,.int .i64 lox,.bool lsx,.int .i64 hix,.bool hsx,.bool opx] 47)).alloc (.cells #[.int .i64 s,.int .i64 sp] 50)).alloc (.cells #[.int .u8 wka,.int .u8 sda,.slice a3a l3a c3a,.slice a4a l4a c4a,.int .u8 wkb,.int .u8 sdb,.slice a3b l3b c3b,.slice a4b l4b c4b] 56):=⟨_,rfl⟩
     rw [← hW18]
     have hb18 : Below w17.heap.size w17 W18:=by rw [hW18]; exact ((z08 _ _).alloc (by simp) _).alloc (by simp <;> omega) _
     have hB18:=belS HB17.out hb18
     have hk0 : W18.heap[w17.heap.size]? = some (.cells #[.int .u8 kx,.slice a1x n1x c1x,.slice a2x n2x c2x,.int .i64 lox,.bool lsx,.int .i64 hix,.bool hsx,.bool opx] 47 (0,0)):=by rw [hW18]; exact (Jb _ _ _ (by simp <;> omega)).trans ((Jb _ _ _ (by simp)).trans (z01 rfl))
     have hk1 : W18.heap[w17.heap.size + 1]? = some (.cells #[.int .i64 s,.int .i64 sp] 50 (0,0)):=by rw [hW18]; exact (Jb _ _ _ (by simp <;> omega)).trans (z01 (by simp))
     have hk2 : W18.heap[w17.heap.size + 1 + 1]? = some (.cells #[.int .u8 wka,.int .u8 sda,.slice a3a l3a c3a,.slice a4a l4a c4a,.int .u8 wkb,.int .u8 sdb,.slice a3b l3b c3b,.slice a4b l4b c4b] 56 (0,0)):=by rw [hW18]; exact z01 (by simp)
     have hE:=HENV.out W18 hB18
     have hok : okT (n + 1) ((5,0,[(s,sp)],[ta,tb]) : PT (n + 1)):=ok_two HIS.out HOA.out HOB.out
     refine (z03 (m:=m) (d:=d + 1) (n:=n + 1) names _ _ HNS.out (((5,[],[x],z06) : XT m (d + 1))) _ l t tp u up ((5,0,[(s,sp)],[ta,tb]) : PT (n + 1)) _ W18 hE.1 hE.2.1 (z41 5 z06 hk0 hE.2.2.1 1) hE.2.2.2.2.1 (z4y 5 0 hk2 hE.2.2.2.2.2.1 hE.2.2.2.2.2.2 (z63 hk1 1) 2) hok HIT.out HIU.out).mono ?_
     rw [HP2.out]
     dsimp only
     rintro e w19 ⟨rfl,hbx⟩
     have HB19 : Hid (Below WB.heap.size WB w19):=belS hB18 hbx
     clear hW18 hb18 hB18 hk0 hk1 hk2 hE hok hbx HP2
     clear xf0 xf1 xf2 xf3 xf4 xf5 xf6 xf7 xf8 xf9 xf10 xf11 xf12 xf13 xf14 xf15 xf16 xf17 xf18 xf19 xf20 xf21 xf22 xf23 xf24 xf25 xf26 xf27 xf28 xf29 xf30 xf31 xf32 xf33 xf34 xf35 xf36
     obtain ⟨xf0,xf1,xf2,xf3,xf4,xf5,xf6,xf7,xf8,xf9,xf10,xf11,xf12,xf13,xf14,xf15,xf16,xf17,xf18,xf19,xf20,xf21,xf22,xf23,xf24,xf25,xf26,xf27,xf28,xf29,xf30,xf31,xf32,xf33,xf34,xf35,xf36⟩:=HF.out w19 HB19.out
     cases sa
     ·skip
      go_wp2_with fail
      all_goals go_ret
      all_goals exact ⟨rfl,HBB.out.trans (HB19.out.mono HBB.out.size)⟩
     ·skip
      go_wp2_with fail
      all_goals go_ret
      all_goals exact ⟨rfl,HBB.out.trans (HB19.out.mono HBB.out.size)⟩
    ·skip
     obtain ⟨xf0,xf1,xf2,xf3,xf4,xf5,xf6,xf7,xf8,xf9,xf10,xf11,xf12,xf13,xf14,xf15,xf16,xf17,xf18,xf19,xf20,xf21,xf22,xf23,xf24,xf25,xf26,xf27,xf28,xf29,xf30,xf31,xf32,xf33,xf34,xf35,xf36⟩:=HF.out w16 HB16.out
     go_upto_region 14 with fail
     clear xf0 xf1 xf2 xf3 xf4 xf5 xf6 xf7 xf8 xf9 xf10 xf11 xf12 xf13 xf14 xf15 xf16 xf17 xf18 xf19 xf20 xf21 xf22 xf23 xf24 xf25 xf26 xf27 xf28 xf29 xf30 xf31 xf32 xf33 xf34 xf35 xf36
     have hE:=HENV.out w16 HB16.out
     refine (z03 names _ _ HNS.out x _ l s sp u up tb _ w16 hE.1 hE.2.1 hE.2.2.1 hE.2.2.2.2.1 hE.2.2.2.2.2.2 HOB.out HIS.out HIU.out).mono ?_
     rw [HSA.out]
     dsimp only
     rintro e w17 ⟨rfl,hbx⟩
     have HB17 : Hid (Below WB.heap.size WB w17):=belS HB16.out hbx
     clear hbx hE HSA
     obtain ⟨xf0,xf1,xf2,xf3,xf4,xf5,xf6,xf7,xf8,xf9,xf10,xf11,xf12,xf13,xf14,xf15,xf16,xf17,xf18,xf19,xf20,xf21,xf22,xf23,xf24,xf25,xf26,xf27,xf28,xf29,xf30,xf31,xf32,xf33,xf34,xf35,xf36⟩:=HF.out w17 HB17.out
     go_upto_region 15 with fail
     obtain ⟨W18,hW18⟩ : ∃ W,W = ((w17.alloc (.cells #[.int .u8 kx,.slice a1x n1x c1x,.slice a2x n2x c2x,.int .i64 lox,.bool lsx,.int .i64 hix,.bool hsx,.bool opx] 47)).alloc (.cells #[.int .i64 s,.int .i64 sp] 50)).alloc (.cells #[.int .u8 wka,.int .u8 sda,.slice a3a l3a c3a,.slice a4a l4a c4a,.int .u8 wkb,.int .u8 sdb,.slice a3b l3b c3b,.slice a4b l4b c4b] 56):=⟨_,rfl⟩
     rw [← hW18]
     have hb18 : Below w17.heap.size w17 W18:=by rw [hW18]; exact ((z08 _ _).alloc (by simp) _).alloc (by simp <;> omega) _
     have hB18:=belS HB17.out hb18
     have hk0 : W18.heap[w17.heap.size]? = some (.cells #[.int .u8 kx,.slice a1x n1x c1x,.slice a2x n2x c2x,.int .i64 lox,.bool lsx,.int .i64 hix,.bool hsx,.bool opx] 47 (0,0)):=by rw [hW18]; exact (Jb _ _ _ (by simp <;> omega)).trans ((Jb _ _ _ (by simp)).trans (z01 rfl))
     have hk1 : W18.heap[w17.heap.size + 1]? = some (.cells #[.int .i64 s,.int .i64 sp] 50 (0,0)):=by rw [hW18]; exact (Jb _ _ _ (by simp <;> omega)).trans (z01 (by simp))
     have hk2 : W18.heap[w17.heap.size + 1 + 1]? = some (.cells #[.int .u8 wka,.int .u8 sda,.slice a3a l3a c3a,.slice a4a l4a c4a,.int .u8 wkb,.int .u8 sdb,.slice a3b l3b c3b,.slice a4b l4b c4b] 56 (0,0)):=by rw [hW18]; exact z01 (by simp)
     have hE:=HENV.out W18 hB18
     have hok : okT (n + 1) ((5,0,[(s,sp)],[ta,tb]) : PT (n + 1)):=ok_two HIS.out HOA.out HOB.out
     refine (z03 (m:=m) (d:=d + 1) (n:=n + 1) names _ _ HNS.out (((5,[],[x],z06) : XT m (d + 1))) _ l t tp u up ((5,0,[(s,sp)],[ta,tb]) : PT (n + 1)) _ W18 hE.1 hE.2.1 (z41 5 z06 hk0 hE.2.2.1 1) hE.2.2.2.2.1 (z4y 5 0 hk2 hE.2.2.2.2.2.1 hE.2.2.2.2.2.2 (z63 hk1 1) 2) hok HIT.out HIU.out).mono ?_
     rw [HP2.out]
     dsimp only
     rintro e w19 ⟨rfl,hbx⟩
     have HB19 : Hid (Below WB.heap.size WB w19):=belS hB18 hbx
     clear hW18 hb18 hB18 hk0 hk1 hk2 hE hok hbx HP2
     clear xf0 xf1 xf2 xf3 xf4 xf5 xf6 xf7 xf8 xf9 xf10 xf11 xf12 xf13 xf14 xf15 xf16 xf17 xf18 xf19 xf20 xf21 xf22 xf23 xf24 xf25 xf26 xf27 xf28 xf29 xf30 xf31 xf32 xf33 xf34 xf35 xf36
     obtain ⟨xf0,xf1,xf2,xf3,xf4,xf5,xf6,xf7,xf8,xf9,xf10,xf11,xf12,xf13,xf14,xf15,xf16,xf17,xf18,xf19,xf20,xf21,xf22,xf23,xf24,xf25,xf26,xf27,xf28,xf29,xf30,xf31,xf32,xf33,xf34,xf35,xf36⟩:=HF.out w19 HB19.out
     cases sa
     ·skip
      go_wp2_with fail
      all_goals go_ret
      all_goals exact ⟨rfl,HBB.out.trans (HB19.out.mono HBB.out.size)⟩
     ·skip
      go_wp2_with fail
      all_goals go_ret
      all_goals exact ⟨rfl,HBB.out.trans (HB19.out.mono HBB.out.size)⟩
  ·skip
   obtain ⟨xf0,xf1,xf2,xf3,xf4,xf5,xf6,xf7,xf8,xf9,xf10,xf11,xf12,xf13,xf14,xf15,xf16,xf17,xf18,xf19,xf20,xf21,xf22,xf23,xf24,xf25,xf26,xf27,xf28,xf29,xf30,xf31,xf32,xf33,xf34,xf35,xf36⟩:=HF.out w16 HB16.out
   go_upto_region 14 with fail
   clear xf0 xf1 xf2 xf3 xf4 xf5 xf6 xf7 xf8 xf9 xf10 xf11 xf12 xf13 xf14 xf15 xf16 xf17 xf18 xf19 xf20 xf21 xf22 xf23 xf24 xf25 xf26 xf27 xf28 xf29 xf30 xf31 xf32 xf33 xf34 xf35 xf36
   have hE:=HENV.out w16 HB16.out
   refine (z03 names _ _ HNS.out x _ l s sp u up tb _ w16 hE.1 hE.2.1 hE.2.2.1 hE.2.2.2.2.1 hE.2.2.2.2.2.2 HOB.out HIS.out HIU.out).mono ?_
   rw [HSA.out]
   dsimp only
   rintro e w17 ⟨rfl,hbx⟩
   have HB17 : Hid (Below WB.heap.size WB w17):=belS HB16.out hbx
   clear hbx hE HSA
   obtain ⟨xf0,xf1,xf2,xf3,xf4,xf5,xf6,xf7,xf8,xf9,xf10,xf11,xf12,xf13,xf14,xf15,xf16,xf17,xf18,xf19,xf20,xf21,xf22,xf23,xf24,xf25,xf26,xf27,xf28,xf29,xf30,xf31,xf32,xf33,xf34,xf35,xf36⟩:=HF.out w17 HB17.out
   go_upto_region 15 with fail
   obtain ⟨W18,hW18⟩ : ∃ W,W = ((w17.alloc (.cells #[.int .u8 kx,.slice a1x n1x c1x,.slice a2x n2x c2x,.int .i64 lox,.bool lsx,.int .i64 hix,.bool hsx,.bool opx] 47)).alloc (.cells #[.int .i64 s,.int .i64 sp] 50)).alloc (.cells #[.int .u8 wka,.int .u8 sda,.slice a3a l3a c3a,.slice a4a l4a c4a,.int .u8 wkb,.int .u8 sdb,.slice a3b l3b c3b,.slice a4b l4b c4b] 56):=⟨_,rfl⟩
   rw [← hW18]
   have hb18 : Below w17.heap.size w17 W18:=by rw [hW18]; exact ((z08 _ _).alloc (by simp) _).alloc (by simp <;> omega) _
   have hB18:=belS HB17.out hb18
   have hk0 : W18.heap[w17.heap.size]? = some (.cells #[.int .u8 kx,.slice a1x n1x c1x,.slice a2x n2x c2x,.int .i64 lox,.bool lsx,.int .i64 hix,.bool hsx,.bool opx] 47 (0,0)):=by rw [hW18]; exact (Jb _ _ _ (by simp <;> omega)).trans ((Jb _ _ _ (by simp)).trans (z01 rfl))
   have hk1 : W18.heap[w17.heap.size + 1]? = some (.cells #[.int .i64 s,.int .i64 sp] 50 (0,0)):=by rw [hW18]; exact (Jb _ _ _ (by simp <;> omega)).trans (z01 (by simp))
   have hk2 : W18.heap[w17.heap.size + 1 + 1]? = some (.cells #[.int .u8 wka,.int .u8 sda,.slice a3a l3a c3a,.slice a4a l4a c4a,.int .u8 wkb,.int .u8 sdb,.slice a3b l3b c3b,.slice a4b l4b c4b] 56 (0,0)):=by rw [hW18]; exact z01 (by simp)
   have hE:=HENV.out W18 hB18
   have hok : okT (n + 1) ((5,0,[(s,sp)],[ta,tb]) : PT (n + 1)):=ok_two HIS.out HOA.out HOB.out
   refine (z03 (m:=m) (d:=d + 1) (n:=n + 1) names _ _ HNS.out (((5,[],[x],z06) : XT m (d + 1))) _ l t tp u up ((5,0,[(s,sp)],[ta,tb]) : PT (n + 1)) _ W18 hE.1 hE.2.1 (z41 5 z06 hk0 hE.2.2.1 1) hE.2.2.2.2.1 (z4y 5 0 hk2 hE.2.2.2.2.2.1 hE.2.2.2.2.2.2 (z63 hk1 1) 2) hok HIT.out HIU.out).mono ?_
   rw [HP2.out]
   dsimp only
   rintro e w19 ⟨rfl,hbx⟩
   have HB19 : Hid (Below WB.heap.size WB w19):=belS hB18 hbx
   clear hW18 hb18 hB18 hk0 hk1 hk2 hE hok hbx HP2
   clear xf0 xf1 xf2 xf3 xf4 xf5 xf6 xf7 xf8 xf9 xf10 xf11 xf12 xf13 xf14 xf15 xf16 xf17 xf18 xf19 xf20 xf21 xf22 xf23 xf24 xf25 xf26 xf27 xf28 xf29 xf30 xf31 xf32 xf33 xf34 xf35 xf36
   obtain ⟨xf0,xf1,xf2,xf3,xf4,xf5,xf6,xf7,xf8,xf9,xf10,xf11,xf12,xf13,xf14,xf15,xf16,xf17,xf18,xf19,xf20,xf21,xf22,xf23,xf24,xf25,xf26,xf27,xf28,xf29,xf30,xf31,xf32,xf33,xf34,xf35,xf36⟩:=HF.out w19 HB19.out
   cases sa
   ·skip
    go_wp2_with fail
    all_goals go_ret
    all_goals exact ⟨rfl,HBB.out.trans (HB19.out.mono HBB.out.size)⟩
   ·by_cases hc0 : c < 0
    rotate_left
    ·skip
     go_wp2_with fail
     all_goals go_ret
     all_goals exact ⟨rfl,HBB.out.trans (HB19.out.mono HBB.out.size)⟩
    ·by_cases hc1 : c2 < 0
     rotate_left
     ·skip
      go_wp2_with fail
      all_goals go_ret
      all_goals exact ⟨rfl,HBB.out.trans (HB19.out.mono HBB.out.size)⟩
     ·skip
      go_wp2_with fail
      all_goals go_ret
      all_goals exact ⟨rfl,HBB.out.trans (HB19.out.mono HBB.out.size)⟩
end Go.Proofs.YtockinpjfhhkoaaGreatDoor
