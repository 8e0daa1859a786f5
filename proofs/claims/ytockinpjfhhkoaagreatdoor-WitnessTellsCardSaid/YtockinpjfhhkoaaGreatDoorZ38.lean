/- Proofs of matches: one behind the other. (Printed by gen_wbh.py.) -/
import Derived.Deep.RegionHeld
import Derived.Deep.Cut
import Derived.LoopTactic
import Derived.Test.YtockinpjfhhkoaaGreatDoorZ23
set_option maxRecDepth 100000
set_option maxHeartbeats 16000000
open List renaming setIfInBounds_toArray → J1, set_cons_zero → J2, set_cons_succ → J3, getElem_toArray → J4, getElem_cons_zero → J5, getElem_cons_succ → J6
open Go.Lib renaming cell_of_heap → Jc, hid → Jh
open Go.AllReadyH renaming cons → Jd, nil → Je
open Go renaming wpAnyH_ready → Jr
open Go.RowKit.Below renaming heap_alloc → Jb
namespace Go.Proofs.YtockinpjfhhkoaaGreatDoor
open Go.RowKit
def cat2 {α : Type} (f : Int × Int → α → α → Bool) : List (Int × Int) → List α → Bool
 | [s],[x,y] => f s x y
 | _,_ => false
theorem cat2_no {α : Type} (f : Int × Int → α → α → Bool) (l : List (Int × Int)) (r : List α) (h : ¬ (l.length = 1 ∧ r.length = 2)) : cat2 f l r = false:=by
 match l,r,h with
 | [s],[x,y],h => exact absurd ⟨rfl,rfl⟩ h
 | [],_,_ => rfl
 | _ :: _ :: _,_,_ => rfl
 | [_],[],_ => rfl
 | [_],[_],_ => rfl
 | [_],_ :: _ :: _ :: _,_ => rfl
theorem rats_at {w : World} {B : Nat} {a : Option Addr} {n c : Nat} {l : List (Int × Int)} (h : RatsRep w B (.slice a n c) l) (i : Nat) (hi : i < l.length) :
 ∃ b off,a = some ⟨b,off,none⟩ ∧ b < B ∧ w.cell? ⟨b,off + i * 2,none⟩ = some (.int .i64 (l[i]).1) ∧ w.cell? ⟨b,off + i * 2 + 1,none⟩ = some (.int .i64 (l[i]).2):=by
 obtain ⟨a',c',hv,_,h⟩:=h
 injection hv with h1 h2 h3
 subst h1
 rcases h with h | ⟨b,off,ha,hb,hc⟩
 ·rw [h] at hi; exact absurd hi (by simp)
 ·exact ⟨b,off,ha,hb,(hc i hi).1,(hc i hi).2⟩
theorem z64 {α : Type} {l : List α} (h : l.length = 1) : ∃ y,l = [y]:=by
 match l,h with
 | [y],_ => exact ⟨y,rfl⟩
theorem z4i {a b : Int × Int} (h : z0f a b = true) : mayP a = true ∧ mayP b = true:=by
 unfold z0f at h
 simp only [Bool.and_eq_true] at h
 exact h.1
theorem cat174_any {names : List ByteArray} {m : Nat} {nv : Value} {la : Option Addr} {lc : Nat} {l : List (Int × Int)} {d n : Nat} (ih : ShowsC names m nv la lc l d n) (k : Int) (l1 : Nat) (i : Spn) (x1 x2 : XT m d) (a p b q wk sd : Int) (ats : List (Int × Int)) (of : List (PT n)) (l3 l4 : Nat) (hl3 : ats.length = l3) (hl4 : of.length = l4) (a1 a2 a3 a4 : Option Addr) (c1 c2 c3 c4 : Nat) (w : World)
 (he : EnvC names nv la lc l w) (hx : XRow w w.heap.size m d a2 [x1,x2]) (r1 : allX z02 d x1 = true) (r2 : allX z02 d x2 = true) (o1 : allX z11 d x1 = true) (o2 : allX z11 d x2 = true) (hra : RatsRep w w.heap.size (.slice a3 l3 c3) ats) (his : ∀ s ∈ ats,in64 s.1) (hp : PRow w w.heap.size n a4 of) (hk : ∀ y ∈ of,okT n y) (ht : mayP (a,p) = true) (hu : mayP (b,q) = true) (ia : in64 a) (ib : in64 b) :
 Calls Tryz.prog 174 #[.agg #[nv,.slice la l.length lc],.agg #[.int .u8 k,.slice a1 l1 c1,.slice a2 2 c2,.int .i64 i.low,.bool i.ls,.int .i64 i.high,.bool i.hs,.bool i.op],.agg #[.int .i64 a,.int .i64 p],.agg #[.int .i64 b,.int .i64 q],.agg #[.int .u8 wk,.int .u8 sd,.slice a3 l3 c3,.slice a4 l4 c4]] w fun e w' => e = .returned (.bool (sd == 0 && cat2 (fun s v y => z0f (a,p) s && z0f s (b,q) && z08 (z09 names m) l n (toX d x1) (a,p) s v && z08 (z09 names m) l n (toX d x2) s (b,q) y) ats of)) ∧ Below w.heap.size w w':=by
 obtain ⟨WB,hWWB⟩ : ∃ WB,WB = ((((w.alloc (.cells #[nv,.slice la l.length lc] 107)).alloc (.cells #[.int .u8 k,.slice a1 l1 c1,.slice a2 2 c2,.int .i64 i.low,.bool i.ls,.int .i64 i.high,.bool i.hs,.bool i.op] 47)).alloc (.cells #[.int .i64 a,.int .i64 p] 50)).alloc (.cells #[.int .i64 b,.int .i64 q] 50)).alloc (.cells #[.int .u8 wk,.int .u8 sd,.slice a3 l3 c3,.slice a4 l4 c4] 56):=⟨_,rfl⟩
 have hbWB : Below w.heap.size w WB:=by rw [hWWB]; exact ((((z0c _ _).alloc (by simp <;> omega) _).alloc (by simp <;> omega) _).alloc (by simp <;> omega) _).alloc (by simp <;> omega) _
 have hx0 : WB.heap[w.heap.size]? = some (.cells #[nv,.slice la l.length lc] 107 (0,0)):=by rw [hWWB]; exact (Jb _ _ _ (by simp <;> omega)).trans ((Jb _ _ _ (by simp <;> omega)).trans ((Jb _ _ _ (by simp <;> omega)).trans ((Jb _ _ _ (by simp <;> omega)).trans (z03 rfl))))
 have hx1 : WB.heap[w.heap.size + 1]? = some (.cells #[.int .u8 k,.slice a1 l1 c1,.slice a2 2 c2,.int .i64 i.low,.bool i.ls,.int .i64 i.high,.bool i.hs,.bool i.op] 47 (0,0)):=by rw [hWWB]; exact (Jb _ _ _ (by simp <;> omega)).trans ((Jb _ _ _ (by simp <;> omega)).trans ((Jb _ _ _ (by simp <;> omega)).trans (z03 (by simp))))
 have hx2 : WB.heap[w.heap.size + 1 + 1]? = some (.cells #[.int .i64 a,.int .i64 p] 50 (0,0)):=by rw [hWWB]; exact (Jb _ _ _ (by simp <;> omega)).trans ((Jb _ _ _ (by simp <;> omega)).trans (z03 (by simp)))
 have hx3 : WB.heap[w.heap.size + 1 + 1 + 1]? = some (.cells #[.int .i64 b,.int .i64 q] 50 (0,0)):=by rw [hWWB]; exact (Jb _ _ _ (by simp <;> omega)).trans (z03 (by simp))
 have hx4 : WB.heap[w.heap.size + 1 + 1 + 1 + 1]? = some (.cells #[.int .u8 wk,.int .u8 sd,.slice a3 l3 c3,.slice a4 l4 c4] 56 (0,0)):=by rw [hWWB]; exact z03 (by simp)
 have HX : Hid (∀ W,Below WB.heap.size WB W → W.heap[w.heap.size]? = some (.cells #[nv,.slice la l.length lc] 107 (0,0)) ∧ W.heap[w.heap.size + 1]? = some (.cells #[.int .u8 k,.slice a1 l1 c1,.slice a2 2 c2,.int .i64 i.low,.bool i.ls,.int .i64 i.high,.bool i.hs,.bool i.op] 47 (0,0)) ∧ W.heap[w.heap.size + 1 + 1]? = some (.cells #[.int .i64 a,.int .i64 p] 50 (0,0)) ∧ W.heap[w.heap.size + 1 + 1 + 1]? = some (.cells #[.int .i64 b,.int .i64 q] 50 (0,0)) ∧ W.heap[w.heap.size + 1 + 1 + 1 + 1]? = some (.cells #[.int .u8 wk,.int .u8 sd,.slice a3 l3 c3,.slice a4 l4 c4] 56 (0,0))):=fun W hW => ⟨(hW.block _ (Array.getElem?_eq_some_iff.1 hx0).1).trans hx0,(hW.block _ (Array.getElem?_eq_some_iff.1 hx1).1).trans hx1,(hW.block _ (Array.getElem?_eq_some_iff.1 hx2).1).trans hx2,(hW.block _ (Array.getElem?_eq_some_iff.1 hx3).1).trans hx3,(hW.block _ (Array.getElem?_eq_some_iff.1 hx4).1).trans hx4⟩
 have HF : Hid (∀ W,Below WB.heap.size WB W → W.cell? ⟨w.heap.size,0,none⟩ = some (nv) ∧ W.cell? ⟨w.heap.size,1,none⟩ = some (.slice la l.length lc) ∧ W.cell? ⟨w.heap.size + 1,0,none⟩ = some (.int .u8 k) ∧ W.cell? ⟨w.heap.size + 1,1,none⟩ = some (.slice a1 l1 c1) ∧ W.cell? ⟨w.heap.size + 1,2,none⟩ = some (.slice a2 2 c2) ∧ W.cell? ⟨w.heap.size + 1,3,none⟩ = some (.int .i64 i.low) ∧ W.cell? ⟨w.heap.size + 1,4,none⟩ = some (.bool i.ls) ∧ W.cell? ⟨w.heap.size + 1,5,none⟩ = some (.int .i64 i.high) ∧ W.cell? ⟨w.heap.size + 1,6,none⟩ = some (.bool i.hs) ∧ W.cell? ⟨w.heap.size + 1,7,none⟩ = some (.bool i.op) ∧ W.cell? ⟨w.heap.size + 1 + 1,0,none⟩ = some (.int .i64 a) ∧ W.cell? ⟨w.heap.size + 1 + 1,1,none⟩ = some (.int .i64 p) ∧ W.cell? ⟨w.heap.size + 1 + 1 + 1,0,none⟩ = some (.int .i64 b) ∧ W.cell? ⟨w.heap.size + 1 + 1 + 1,1,none⟩ = some (.int .i64 q) ∧ W.cell? ⟨w.heap.size + 1 + 1 + 1 + 1,0,none⟩ = some (.int .u8 wk) ∧ W.cell? ⟨w.heap.size + 1 + 1 + 1 + 1,1,none⟩ = some (.int .u8 sd) ∧ W.cell? ⟨w.heap.size + 1 + 1 + 1 + 1,2,none⟩ = some (.slice a3 l3 c3) ∧ W.cell? ⟨w.heap.size + 1 + 1 + 1 + 1,3,none⟩ = some (.slice a4 l4 c4) ∧ w.heap.size < W.heap.size ∧ w.heap.size + 1 < W.heap.size ∧ w.heap.size + 1 + 1 < W.heap.size ∧ w.heap.size + 1 + 1 + 1 < W.heap.size ∧ w.heap.size + 1 + 1 + 1 + 1 < W.heap.size):=by
  intro W hW
  obtain ⟨k0,k1,k2,k3,k4⟩:=HX.out W hW
  exact ⟨Jc k0 0,Jc k0 1,Jc k1 0,Jc k1 1,Jc k1 2,Jc k1 3,Jc k1 4,Jc k1 5,Jc k1 6,Jc k1 7,Jc k2 0,Jc k2 1,Jc k3 0,Jc k3 1,Jc k4 0,Jc k4 1,Jc k4 2,Jc k4 3,(Array.getElem?_eq_some_iff.1 k0).1,(Array.getElem?_eq_some_iff.1 k1).1,(Array.getElem?_eq_some_iff.1 k2).1,(Array.getElem?_eq_some_iff.1 k3).1,(Array.getElem?_eq_some_iff.1 k4).1⟩
 have HBB:=Jh hbWB
 have HWB:=Jh hWWB.symm
 clear hWWB hbWB hx0 hx1 hx2 hx3 hx4
 have HBW : Hid (∀ W,Below WB.heap.size WB W → Below w.heap.size w W):=fun W h => HBB.out.trans (h.mono HBB.out.size)
 have HEN : Hid (∀ W,Below WB.heap.size WB W → EnvC names nv la lc l W):=fun W h => he.up (HBW.out W h)
 have HF4 : Hid (∀ W,Below WB.heap.size WB W → W.cell? ⟨w.heap.size + 1 + 1 + 1 + 1,1,none⟩ = some (.int .u8 sd) ∧ W.cell? ⟨w.heap.size + 1 + 1 + 1 + 1,2,none⟩ = some (.slice a3 l3 c3) ∧ W.cell? ⟨w.heap.size + 1 + 1 + 1 + 1,3,none⟩ = some (.slice a4 l4 c4) ∧ w.heap.size + 1 + 1 + 1 + 1 < W.heap.size):=by
  intro W hW
  have hq:=HBW.out W hW
  obtain ⟨k0,k1,k2,k3,k4⟩:=HX.out W hW
  exact ⟨Jc k4 1,Jc k4 2,Jc k4 3,(Array.getElem?_eq_some_iff.1 k4).1⟩
 by_cases hs0 : sd = 0
 rotate_left
 ·have d1 : (sd != 0) = true:=by simpa using hs0
  have d2 : (sd == 0) = false:=by simpa using hs0
  rw [d2]
  clear ih hx hp hk ht hu ia ib he HEN hl3 hl4 hs0 d2 hra his
  go_enter Tryz.func174,Tryz.ntmps174
  go_upto_region 1 with fail
  rw [HWB.out]
  clear HWB
  obtain ⟨z0,z1,z2,z3⟩:=HF4.out WB (Below.refl _ _)
  go_wp2_with fail
  all_goals go_ret
  all_goals exact ⟨rfl,HBB.out⟩
 by_cases h3 : l3 = 1
 rotate_left
 ·have d1 : (sd != 0) = false:=by simpa using hs0
  have d2 : ((l3 : Int) != 1) = true:=by simp; omega
  rw [cat2_no _ ats of (by omega),Bool.and_false]
  clear ih hx hp hk ht hu ia ib he HEN hl3 hl4 hs0 h3 hra his
  go_enter Tryz.func174,Tryz.ntmps174
  go_upto_region 1 with fail
  rw [HWB.out]
  clear HWB
  obtain ⟨z0,z1,z2,z3⟩:=HF4.out WB (Below.refl _ _)
  go_wp2_with fail
  all_goals go_ret
  all_goals exact ⟨rfl,HBB.out⟩
 by_cases h4 : l4 = 2
 rotate_left
 ·have d1 : (sd != 0) = false:=by simpa using hs0
  have d2 : ((l3 : Int) != 1) = false:=by simp; omega
  have d3 : ((l4 : Int) != 2) = true:=by simp; omega
  rw [cat2_no _ ats of (by omega),Bool.and_false]
  clear ih hx hp hk ht hu ia ib he HEN hl3 hl4 hs0 h3 h4 hra his
  go_enter Tryz.func174,Tryz.ntmps174
  go_upto_region 1 with fail
  rw [HWB.out]
  clear HWB
  obtain ⟨z0,z1,z2,z3⟩:=HF4.out WB (Below.refl _ _)
  go_wp2_with fail
  all_goals go_ret
  all_goals exact ⟨rfl,HBB.out⟩
 subst hs0 h3 h4
 obtain ⟨⟨s,sq⟩,rfl⟩:=z64 hl3
 obtain ⟨v,y,rfl⟩:=z4j _ hl4
 have hkv:=hk v (by simp)
 have hky:=hk y (by simp)
 have is : in64 s:=his (s,sq) (by simp)
 obtain ⟨rb,ro,hra2,rlt,rf0,rf1⟩:=rats_at hra 0 (by simp)
 simp only [Nat.zero_mul,Nat.add_zero,J5] at rf0 rf1
 obtain ⟨y0b,y0o,y0k,y0s,y0a,y0l,y0c,y0d,y0m,y0e,hy0a,y0lt,y0f0,y0f1,y0f2,y0f3,hy0r⟩:=hp.at 0 (by simp)
 simp only [Nat.zero_mul,Nat.add_zero,J5] at y0f0 y0f1 y0f2 y0f3 hy0r
 obtain ⟨y1b,y1o,y1k,y1s,y1a,y1l,y1c,y1d,y1m,y1e,hy1a,y1lt,y1f0,y1f1,y1f2,y1f3,hy1r⟩:=hp.at 1 (by simp)
 simp only [Nat.one_mul,J5,J6] at y1f0 y1f1 y1f2 y1f3 hy1r
 obtain ⟨x0b,x0o,x0k,x0a,x0l,x0c,x0d,x0m,x0e,x0g,x0h,x0i,x0j,x0p,hx0a,x0lt,x0f0,x0f1,x0f2,x0f3,x0f4,x0f5,x0f6,x0f7,hx0r⟩:=hx.at 0 (by simp)
 simp only [Nat.zero_mul,Nat.add_zero,J5] at x0f0 x0f1 x0f2 x0f3 x0f4 x0f5 x0f6 x0f7 hx0r
 obtain ⟨x1b,x1o,x1k,x1a,x1l,x1c,x1d,x1m,x1e,x1g,x1h,x1i,x1j,x1p,hx1a,x1lt,x1f0,x1f1,x1f2,x1f3,x1f4,x1f5,x1f6,x1f7,hx1r⟩:=hx.at 1 (by simp)
 simp only [Nat.one_mul,J5,J6] at x1f0 x1f1 x1f2 x1f3 x1f4 x1f5 x1f6 x1f7 hx1r
 subst hx0a hy0a hra2
 injection hx1a with hx1a
 injection hx1a with hx1b hx1o
 injection hy1a with hy1a
 injection hy1a with hy1b hy1o
 subst hx1b hx1o hy1b hy1o
 have HL1:=fun W => Jh (z16 a p s sq W ia is)
 have HL2:=fun W => Jh (z16 s sq b q W is ib)
 have hls1 : z0f (a,p) (s,sq) = true → mayP (s,sq) = true:=fun h => (z4i h).2
 obtain ⟨L1,hL1⟩ : ∃ L,z0f (a,p) (s,sq) = L:=⟨_,rfl⟩
 obtain ⟨L2,hL2⟩ : ∃ L,z0f (s,sq) (b,q) = L:=⟨_,rfl⟩
 rw [hL1] at HL1 hls1
 rw [hL2] at HL2
 obtain ⟨R0,hR0⟩ : ∃ R,z08 (z09 names m) l n (toX d x1) (a,p) (s,sq) v = R:=⟨_,rfl⟩
 obtain ⟨R1,hR1⟩ : ∃ R,z08 (z09 names m) l n (toX d x2) (s,sq) (b,q) y = R:=⟨_,rfl⟩
 rw [show ((0 : Int) == 0 && cat2 (fun s v y => z0f (a,p) s && z0f s (b,q) && z08 (z09 names m) l n (toX d x1) (a,p) s v && z08 (z09 names m) l n (toX d x2) s (b,q) y) [(s,sq)] [v,y]) = (L1 && L2 && R0 && R1) by rw [← hR0,← hR1,← hL1,← hL2]; rfl]
 obtain ⟨W3,hW3⟩ : ∃ W3,W3 = WB.alloc (.cells #[.int .i64 s,.int .i64 sq] 50):=⟨_,rfl⟩
 have hb3 : Below WB.heap.size WB W3:=by rw [hW3]; exact z0c _ _
 have hx3 : W3.heap[WB.heap.size]? = some (.cells #[.int .i64 s,.int .i64 sq] 50 (0,0)):=by rw [hW3]; exact z03 rfl
 have HX3 : Hid (∀ W,Below W3.heap.size W3 W → W.heap[WB.heap.size]? = some (.cells #[.int .i64 s,.int .i64 sq] 50 (0,0))):=fun W h => (h.block _ (Array.getElem?_eq_some_iff.1 hx3).1).trans hx3
 have HB3:=Jh hb3
 have HW3:=Jh hW3.symm
 have HBW3 : Hid (∀ W,Below W3.heap.size W3 W → Below w.heap.size w W):=fun W h => HBW.out W (belS HB3.out h)
 have HEN3 : Hid (∀ W,Below W3.heap.size W3 W → EnvC names nv la lc l W):=fun W h => HEN.out W (belS HB3.out h)
 clear hx3 hb3 hW3
 have HF2 : Hid (∀ W,Below WB.heap.size WB W → W.cell? ⟨w.heap.size + 1 + 1 + 1 + 1,1,none⟩ = some (.int .u8 0) ∧ W.cell? ⟨w.heap.size + 1 + 1 + 1 + 1,2,none⟩ = some (.slice (some ⟨rb,ro,none⟩) 1 c3) ∧ W.cell? ⟨w.heap.size + 1 + 1 + 1 + 1,3,none⟩ = some (.slice (some ⟨y0b,y0o,none⟩) 2 c4) ∧ w.heap.size + 1 + 1 + 1 + 1 < W.heap.size ∧ W.cell? ⟨rb,ro,none⟩ = some (.int .i64 s) ∧ W.cell? ⟨rb,ro + 1,none⟩ = some (.int .i64 sq) ∧ rb < W.heap.size):=by
  intro W hW
  have hq:=HBW.out W hW
  obtain ⟨k0,k1,k2,k3,k4⟩:=HX.out W hW
  exact ⟨Jc k4 1,Jc k4 2,Jc k4 3,(Array.getElem?_eq_some_iff.1 k4).1,(hq.cell (p:=⟨rb,_,none⟩) rlt).trans rf0,(hq.cell (p:=⟨rb,_,none⟩) rlt).trans rf1,Nat.lt_of_lt_of_le rlt hq.size⟩
 have HF5 : Hid (∀ W,Below W3.heap.size W3 W → W.cell? ⟨w.heap.size,0,none⟩ = some (nv) ∧ W.cell? ⟨w.heap.size,1,none⟩ = some (.slice la l.length lc) ∧ W.cell? ⟨w.heap.size + 1,2,none⟩ = some (.slice (some ⟨x0b,x0o,none⟩) 2 c2) ∧ W.cell? ⟨w.heap.size + 1 + 1,0,none⟩ = some (.int .i64 a) ∧ W.cell? ⟨w.heap.size + 1 + 1,1,none⟩ = some (.int .i64 p) ∧ W.cell? ⟨w.heap.size + 1 + 1 + 1,0,none⟩ = some (.int .i64 b) ∧ W.cell? ⟨w.heap.size + 1 + 1 + 1,1,none⟩ = some (.int .i64 q) ∧ W.cell? ⟨w.heap.size + 1 + 1 + 1 + 1,0,none⟩ = some (.int .u8 wk) ∧ W.cell? ⟨w.heap.size + 1 + 1 + 1 + 1,1,none⟩ = some (.int .u8 0) ∧ W.cell? ⟨w.heap.size + 1 + 1 + 1 + 1,2,none⟩ = some (.slice (some ⟨rb,ro,none⟩) 1 c3) ∧ W.cell? ⟨w.heap.size + 1 + 1 + 1 + 1,3,none⟩ = some (.slice (some ⟨y0b,y0o,none⟩) 2 c4) ∧ w.heap.size < W.heap.size ∧ w.heap.size + 1 < W.heap.size ∧ w.heap.size + 1 + 1 < W.heap.size ∧ w.heap.size + 1 + 1 + 1 < W.heap.size ∧ w.heap.size + 1 + 1 + 1 + 1 < W.heap.size ∧ W.cell? ⟨x0b,x0o,none⟩ = some (.int .u8 x0k) ∧ W.cell? ⟨x0b,x0o + 1,none⟩ = some (.slice x0a x0l x0c) ∧ W.cell? ⟨x0b,x0o + 2,none⟩ = some (.slice x0d x0m x0e) ∧ W.cell? ⟨x0b,x0o + 3,none⟩ = some (.int .i64 x0g) ∧ W.cell? ⟨x0b,x0o + 4,none⟩ = some (.bool x0h) ∧ W.cell? ⟨x0b,x0o + 5,none⟩ = some (.int .i64 x0i) ∧ W.cell? ⟨x0b,x0o + 6,none⟩ = some (.bool x0j) ∧ W.cell? ⟨x0b,x0o + 7,none⟩ = some (.bool x0p) ∧ x0b < W.heap.size ∧ W.cell? ⟨x0b,x0o + 8,none⟩ = some (.int .u8 x1k) ∧ W.cell? ⟨x0b,x0o + 8 + 1,none⟩ = some (.slice x1a x1l x1c) ∧ W.cell? ⟨x0b,x0o + 8 + 2,none⟩ = some (.slice x1d x1m x1e) ∧ W.cell? ⟨x0b,x0o + 8 + 3,none⟩ = some (.int .i64 x1g) ∧ W.cell? ⟨x0b,x0o + 8 + 4,none⟩ = some (.bool x1h) ∧ W.cell? ⟨x0b,x0o + 8 + 5,none⟩ = some (.int .i64 x1i) ∧ W.cell? ⟨x0b,x0o + 8 + 6,none⟩ = some (.bool x1j) ∧ W.cell? ⟨x0b,x0o + 8 + 7,none⟩ = some (.bool x1p) ∧ x0b < W.heap.size ∧ W.cell? ⟨y0b,y0o,none⟩ = some (.int .u8 y0k) ∧ W.cell? ⟨y0b,y0o + 1,none⟩ = some (.int .u8 y0s) ∧ W.cell? ⟨y0b,y0o + 2,none⟩ = some (.slice y0a y0l y0c) ∧ W.cell? ⟨y0b,y0o + 3,none⟩ = some (.slice y0d y0m y0e) ∧ y0b < W.heap.size ∧ W.cell? ⟨y0b,y0o + 4,none⟩ = some (.int .u8 y1k) ∧ W.cell? ⟨y0b,y0o + 4 + 1,none⟩ = some (.int .u8 y1s) ∧ W.cell? ⟨y0b,y0o + 4 + 2,none⟩ = some (.slice y1a y1l y1c) ∧ W.cell? ⟨y0b,y0o + 4 + 3,none⟩ = some (.slice y1d y1m y1e) ∧ y0b < W.heap.size ∧ W.cell? ⟨WB.heap.size,0,none⟩ = some (.int .i64 s) ∧ W.cell? ⟨WB.heap.size,1,none⟩ = some (.int .i64 sq) ∧ WB.heap.size < W.heap.size):=by
  intro W hW
  have hq:=HBW3.out W hW
  obtain ⟨k0,k1,k2,k3,k4⟩:=HX.out W (belS HB3.out hW)
  have k7:=HX3.out W hW
  exact ⟨Jc k0 0,Jc k0 1,Jc k1 2,Jc k2 0,Jc k2 1,Jc k3 0,Jc k3 1,Jc k4 0,Jc k4 1,Jc k4 2,Jc k4 3,(Array.getElem?_eq_some_iff.1 k0).1,(Array.getElem?_eq_some_iff.1 k1).1,(Array.getElem?_eq_some_iff.1 k2).1,(Array.getElem?_eq_some_iff.1 k3).1,(Array.getElem?_eq_some_iff.1 k4).1,(hq.cell (p:=⟨x0b,_,none⟩) x0lt).trans x0f0,(hq.cell (p:=⟨x0b,_,none⟩) x0lt).trans x0f1,(hq.cell (p:=⟨x0b,_,none⟩) x0lt).trans x0f2,(hq.cell (p:=⟨x0b,_,none⟩) x0lt).trans x0f3,(hq.cell (p:=⟨x0b,_,none⟩) x0lt).trans x0f4,(hq.cell (p:=⟨x0b,_,none⟩) x0lt).trans x0f5,(hq.cell (p:=⟨x0b,_,none⟩) x0lt).trans x0f6,(hq.cell (p:=⟨x0b,_,none⟩) x0lt).trans x0f7,Nat.lt_of_lt_of_le x0lt hq.size,(hq.cell (p:=⟨x0b,_,none⟩) x1lt).trans x1f0,(hq.cell (p:=⟨x0b,_,none⟩) x1lt).trans x1f1,(hq.cell (p:=⟨x0b,_,none⟩) x1lt).trans x1f2,(hq.cell (p:=⟨x0b,_,none⟩) x1lt).trans x1f3,(hq.cell (p:=⟨x0b,_,none⟩) x1lt).trans x1f4,(hq.cell (p:=⟨x0b,_,none⟩) x1lt).trans x1f5,(hq.cell (p:=⟨x0b,_,none⟩) x1lt).trans x1f6,(hq.cell (p:=⟨x0b,_,none⟩) x1lt).trans x1f7,Nat.lt_of_lt_of_le x1lt hq.size,(hq.cell (p:=⟨y0b,_,none⟩) y0lt).trans y0f0,(hq.cell (p:=⟨y0b,_,none⟩) y0lt).trans y0f1,(hq.cell (p:=⟨y0b,_,none⟩) y0lt).trans y0f2,(hq.cell (p:=⟨y0b,_,none⟩) y0lt).trans y0f3,Nat.lt_of_lt_of_le y0lt hq.size,(hq.cell (p:=⟨y0b,_,none⟩) y1lt).trans y1f0,(hq.cell (p:=⟨y0b,_,none⟩) y1lt).trans y1f1,(hq.cell (p:=⟨y0b,_,none⟩) y1lt).trans y1f2,(hq.cell (p:=⟨y0b,_,none⟩) y1lt).trans y1f3,Nat.lt_of_lt_of_le y1lt hq.size,Jc k7 0,Jc k7 1,(Array.getElem?_eq_some_iff.1 k7).1⟩
 cases L1 with
 | false =>
  clear hls1
  clear ih hx hp hk ht hu ia ib he hra his is hR0 hR1 hl3 hl4 hkv hky hL1 hL2 rf0 rf1 rlt x0f0 x0f1 x0f2 x0f3 x0f4 x0f5 x0f6 x0f7 x1f0 x1f1 x1f2 x1f3 x1f4 x1f5 x1f6 x1f7 y0f0 y0f1 y0f2 y0f3 y1f0 y1f1 y1f2 y1f3 hx0r hy0r hx1r hy1r x0lt y0lt x1lt y1lt
  go_enter Tryz.func174,Tryz.ntmps174
  go_upto_region 1 with fail
  rw [HWB.out]
  clear HWB
  obtain ⟨z0,z1,z2,z3,z4,z5,z6⟩:=HF2.out WB (Below.refl _ _)
  go_upto_region 4 with fail
  rw [HW3.out]
  clear HW3 z0 z1 z2 z3 z4 z5 z6
  refine wrd (by kernel_rfl) HF5.out (((Below.refl W3.heap.size W3).drew)) (fun hHeld => ?_)
  refine z00 (f:=35) (by kernel_rfl) (by assumption) [(0,true),(1,true)] rfl (by kernel_rfl) ?_
  repeat (refine SeqH.take (v:=?_) rfl (fun _ _ _ h => h) (by kernel_rfl) ?_ ?_; rotate_left; (· (intro w hSw; (try dsimp only at hSw); go_simp) <;> with_reducible rfl); (try simp only [Act.put,J1,J2,J3,J4,J5,J6]))
  refine SeqH.nil ?_
  refine Jr (rs:=[2]) (by kernel_rfl) (by simp) ?_
  refine Jd rfl (fun K hK => ?_) Je
  go_simp
  go_at_call 217
  refine (HL1 _).out.mono ?_
  rintro e wc ⟨rfl,hbc⟩
  have HBc : Hid (Below W3.heap.size W3 wc):=belS ((Below.refl W3.heap.size W3).drew) hbc
  clear hbc
  try dsimp only
  refine hK.out _ _ (HF5.out _ HBc.out) (fun hHeld => ?_)
  clear hK K
  try simp only [Act.put,J1,J2,J3,J4,J5,J6]
  refine z00 (f:=0) (by kernel_rfl) (by assumption) [(3,true),(4,false),(5,false),(6,false),(7,true),(8,true),(9,false),(10,false),(11,false),(12,false),(13,false),(14,false),(15,false),(16,false),(17,false),(18,false),(19,false),(20,false),(21,true),(22,true),(23,false),(24,false),(25,false),(26,false),(27,false),(28,false),(29,false),(30,false),(31,false),(32,false),(33,false),(34,false),(35,true),(36,true)] rfl (by kernel_rfl) ?_
  repeat (first | (refine SeqH.skip rfl (fun _ _ _ h => h) (by kernel_rfl) ?_; (try simp only [Act.put,J1,J2,J3,J4,J5,J6])) | (refine SeqH.take (v:=?_) rfl (fun _ _ _ h => h) (by kernel_rfl) ?_ ?_; rotate_left; (· (intro w hSw; (try dsimp only at hSw); go_simp) <;> with_reducible rfl); (try simp only [Act.put,J1,J2,J3,J4,J5,J6])))
  refine SeqH.nil ?_
  refine wpAnyH_done (by kernel_rfl) ?_ _
  clear hHeld
  go_wp2_with fail
  all_goals go_ret
  all_goals exact ⟨rfl,HBW3.out _ (HBc.out)⟩
 | true =>
  have hsm:=hls1 rfl
  clear hls1
  have HS0 : Hid (∀ W,Below W3.heap.size W3 W → Calls Tryz.prog 53 #[.agg #[nv,.slice la l.length lc],.agg #[.int .u8 x0k,.slice x0a x0l x0c,.slice x0d x0m x0e,.int .i64 x0g,.bool x0h,.int .i64 x0i,.bool x0j,.bool x0p],.agg #[.int .i64 a,.int .i64 p],.agg #[.int .i64 s,.int .i64 sq],.agg #[.int .u8 y0k,.int .u8 y0s,.slice y0a y0l y0c,.slice y0d y0m y0e]] W fun e w' => e = .returned (.bool (z08 (z09 names m) l n (toX d x1) (a,p) (s,sq) v)) ∧ Below W.heap.size W w'):=fun W h => ih _ _ _ _ _ _ _ _ W (HEN3.out W h) (hx0r.up (HBW3.out W h) (HBW3.out W h).size) r1 o1 (PRep.up (HBW3.out W h) (HBW3.out W h).size hy0r) hkv ht hsm ia is
  have HS1 : Hid (∀ W,Below W3.heap.size W3 W → Calls Tryz.prog 53 #[.agg #[nv,.slice la l.length lc],.agg #[.int .u8 x1k,.slice x1a x1l x1c,.slice x1d x1m x1e,.int .i64 x1g,.bool x1h,.int .i64 x1i,.bool x1j,.bool x1p],.agg #[.int .i64 s,.int .i64 sq],.agg #[.int .i64 b,.int .i64 q],.agg #[.int .u8 y1k,.int .u8 y1s,.slice y1a y1l y1c,.slice y1d y1m y1e]] W fun e w' => e = .returned (.bool (z08 (z09 names m) l n (toX d x2) (s,sq) (b,q) y)) ∧ Below W.heap.size W w'):=fun W h => ih _ _ _ _ _ _ _ _ W (HEN3.out W h) (hx1r.up (HBW3.out W h) (HBW3.out W h).size) r2 o2 (PRep.up (HBW3.out W h) (HBW3.out W h).size hy1r) hky hsm hu is ib
  rw [hR0] at HS0
  rw [hR1] at HS1
  clear hsm
  clear ih hx hp hk ht hu ia ib he hra his is hR0 hR1 hl3 hl4 hkv hky hL1 hL2 rf0 rf1 rlt x0f0 x0f1 x0f2 x0f3 x0f4 x0f5 x0f6 x0f7 x1f0 x1f1 x1f2 x1f3 x1f4 x1f5 x1f6 x1f7 y0f0 y0f1 y0f2 y0f3 y1f0 y1f1 y1f2 y1f3 hx0r hy0r hx1r hy1r x0lt y0lt x1lt y1lt
  cases L2 with
  | false =>
   go_enter Tryz.func174,Tryz.ntmps174
   go_upto_region 1 with fail
   rw [HWB.out]
   clear HWB
   obtain ⟨z0,z1,z2,z3,z4,z5,z6⟩:=HF2.out WB (Below.refl _ _)
   go_upto_region 4 with fail
   rw [HW3.out]
   clear HW3 z0 z1 z2 z3 z4 z5 z6
   refine wrd (by kernel_rfl) HF5.out (((Below.refl W3.heap.size W3).drew)) (fun hHeld => ?_)
   refine z00 (f:=35) (by kernel_rfl) (by assumption) [(0,true),(1,true)] rfl (by kernel_rfl) ?_
   repeat (refine SeqH.take (v:=?_) rfl (fun _ _ _ h => h) (by kernel_rfl) ?_ ?_; rotate_left; (· (intro w hSw; (try dsimp only at hSw); go_simp) <;> with_reducible rfl); (try simp only [Act.put,J1,J2,J3,J4,J5,J6]))
   refine SeqH.nil ?_
   refine Jr (rs:=[2]) (by kernel_rfl) (by simp) ?_
   refine Jd rfl (fun K hK => ?_) Je
   go_simp
   go_at_call 217
   refine (HL1 _).out.mono ?_
   rintro e wc ⟨rfl,hbc⟩
   have HBc : Hid (Below W3.heap.size W3 wc):=belS ((Below.refl W3.heap.size W3).drew) hbc
   clear hbc
   try dsimp only
   refine hK.out _ _ (HF5.out _ HBc.out) (fun hHeld => ?_)
   clear hK K
   try simp only [Act.put,J1,J2,J3,J4,J5,J6]
   refine z00 (f:=31) (by kernel_rfl) (by assumption) [(3,true),(4,true),(5,true)] rfl (by kernel_rfl) ?_
   repeat (refine SeqH.take (v:=?_) rfl (fun _ _ _ h => h) (by kernel_rfl) ?_ ?_; rotate_left; (· (intro w hSw; (try dsimp only at hSw); go_simp) <;> with_reducible rfl); (try simp only [Act.put,J1,J2,J3,J4,J5,J6]))
   refine SeqH.nil ?_
   refine Jr (rs:=[6]) (by kernel_rfl) (by simp) ?_
   refine Jd rfl (fun K hK => ?_) Je
   go_simp
   go_at_call 217
   refine (HL2 _).out.mono ?_
   rintro e wd ⟨rfl,hbd⟩
   have HBd : Hid (Below W3.heap.size W3 wd):=belS (HBc.out) hbd
   clear hbd
   try dsimp only
   refine hK.out _ _ (HF5.out _ HBd.out) (fun hHeld => ?_)
   clear hK K
   try simp only [Act.put,J1,J2,J3,J4,J5,J6]
   refine z00 (f:=0) (by kernel_rfl) (by assumption) [(7,true),(8,true),(9,false),(10,false),(11,false),(12,false),(13,false),(14,false),(15,false),(16,false),(17,false),(18,false),(19,false),(20,false),(21,true),(22,true),(23,false),(24,false),(25,false),(26,false),(27,false),(28,false),(29,false),(30,false),(31,false),(32,false),(33,false),(34,false),(35,true),(36,true)] rfl (by kernel_rfl) ?_
   repeat (first | (refine SeqH.skip rfl (fun _ _ _ h => h) (by kernel_rfl) ?_; (try simp only [Act.put,J1,J2,J3,J4,J5,J6])) | (refine SeqH.take (v:=?_) rfl (fun _ _ _ h => h) (by kernel_rfl) ?_ ?_; rotate_left; (· (intro w hSw; (try dsimp only at hSw); go_simp) <;> with_reducible rfl); (try simp only [Act.put,J1,J2,J3,J4,J5,J6])))
   refine SeqH.nil ?_
   refine wpAnyH_done (by kernel_rfl) ?_ _
   clear hHeld
   go_wp2_with fail
   all_goals go_ret
   all_goals exact ⟨rfl,HBW3.out _ (HBd.out)⟩
  | true =>
   cases R0 with
   | false =>
    go_enter Tryz.func174,Tryz.ntmps174
    go_upto_region 1 with fail
    rw [HWB.out]
    clear HWB
    obtain ⟨z0,z1,z2,z3,z4,z5,z6⟩:=HF2.out WB (Below.refl _ _)
    go_upto_region 4 with fail
    rw [HW3.out]
    clear HW3 z0 z1 z2 z3 z4 z5 z6
    refine wrd (by kernel_rfl) HF5.out (((Below.refl W3.heap.size W3).drew)) (fun hHeld => ?_)
    refine z00 (f:=35) (by kernel_rfl) (by assumption) [(0,true),(1,true)] rfl (by kernel_rfl) ?_
    repeat (refine SeqH.take (v:=?_) rfl (fun _ _ _ h => h) (by kernel_rfl) ?_ ?_; rotate_left; (· (intro w hSw; (try dsimp only at hSw); go_simp) <;> with_reducible rfl); (try simp only [Act.put,J1,J2,J3,J4,J5,J6]))
    refine SeqH.nil ?_
    refine Jr (rs:=[2]) (by kernel_rfl) (by simp) ?_
    refine Jd rfl (fun K hK => ?_) Je
    go_simp
    go_at_call 217
    refine (HL1 _).out.mono ?_
    rintro e wc ⟨rfl,hbc⟩
    have HBc : Hid (Below W3.heap.size W3 wc):=belS ((Below.refl W3.heap.size W3).drew) hbc
    clear hbc
    try dsimp only
    refine hK.out _ _ (HF5.out _ HBc.out) (fun hHeld => ?_)
    clear hK K
    try simp only [Act.put,J1,J2,J3,J4,J5,J6]
    refine z00 (f:=31) (by kernel_rfl) (by assumption) [(3,true),(4,true),(5,true)] rfl (by kernel_rfl) ?_
    repeat (refine SeqH.take (v:=?_) rfl (fun _ _ _ h => h) (by kernel_rfl) ?_ ?_; rotate_left; (· (intro w hSw; (try dsimp only at hSw); go_simp) <;> with_reducible rfl); (try simp only [Act.put,J1,J2,J3,J4,J5,J6]))
    refine SeqH.nil ?_
    refine Jr (rs:=[6]) (by kernel_rfl) (by simp) ?_
    refine Jd rfl (fun K hK => ?_) Je
    go_simp
    go_at_call 217
    refine (HL2 _).out.mono ?_
    rintro e wd ⟨rfl,hbd⟩
    have HBd : Hid (Below W3.heap.size W3 wd):=belS (HBc.out) hbd
    clear hbd
    try dsimp only
    refine hK.out _ _ (HF5.out _ HBd.out) (fun hHeld => ?_)
    clear hK K
    try simp only [Act.put,J1,J2,J3,J4,J5,J6]
    refine z00 (f:=17) (by kernel_rfl) (by assumption) [(7,true),(8,true),(9,true),(10,true),(11,true),(12,true),(13,true),(14,true),(15,true),(16,true),(17,true),(18,true),(19,true)] rfl (by kernel_rfl) ?_
    repeat (refine SeqH.take (v:=?_) rfl (fun _ _ _ h => h) (by kernel_rfl) ?_ ?_; rotate_left; (· (intro w hSw; (try dsimp only at hSw); go_simp) <;> with_reducible rfl); (try simp only [Act.put,J1,J2,J3,J4,J5,J6]))
    refine SeqH.nil ?_
    refine Jr (rs:=[20]) (by kernel_rfl) (by simp) ?_
    refine Jd rfl (fun K hK => ?_) Je
    go_simp
    go_at_call 53
    refine (HS0.out _ (HBd.out)).mono ?_
    rintro e wf ⟨rfl,hbf⟩
    have HBf : Hid (Below W3.heap.size W3 wf):=belS (HBd.out) hbf
    clear hbf
    try dsimp only
    refine hK.out _ _ (HF5.out _ HBf.out) (fun hHeld => ?_)
    clear hK K
    try simp only [Act.put,J1,J2,J3,J4,J5,J6]
    refine z00 (f:=0) (by kernel_rfl) (by assumption) [(21,true),(22,true),(23,false),(24,false),(25,false),(26,false),(27,false),(28,false),(29,false),(30,false),(31,false),(32,false),(33,false),(34,false),(35,true),(36,true)] rfl (by kernel_rfl) ?_
    repeat (first | (refine SeqH.skip rfl (fun _ _ _ h => h) (by kernel_rfl) ?_; (try simp only [Act.put,J1,J2,J3,J4,J5,J6])) | (refine SeqH.take (v:=?_) rfl (fun _ _ _ h => h) (by kernel_rfl) ?_ ?_; rotate_left; (· (intro w hSw; (try dsimp only at hSw); go_simp) <;> with_reducible rfl); (try simp only [Act.put,J1,J2,J3,J4,J5,J6])))
    refine SeqH.nil ?_
    refine wpAnyH_done (by kernel_rfl) ?_ _
    clear hHeld
    go_wp2_with fail
    all_goals go_ret
    all_goals exact ⟨rfl,HBW3.out _ (HBf.out)⟩
   | true =>
    go_enter Tryz.func174,Tryz.ntmps174
    go_upto_region 1 with fail
    rw [HWB.out]
    clear HWB
    obtain ⟨z0,z1,z2,z3,z4,z5,z6⟩:=HF2.out WB (Below.refl _ _)
    go_upto_region 4 with fail
    rw [HW3.out]
    clear HW3 z0 z1 z2 z3 z4 z5 z6
    refine wrd (by kernel_rfl) HF5.out (((Below.refl W3.heap.size W3).drew)) (fun hHeld => ?_)
    refine z00 (f:=35) (by kernel_rfl) (by assumption) [(0,true),(1,true)] rfl (by kernel_rfl) ?_
    repeat (refine SeqH.take (v:=?_) rfl (fun _ _ _ h => h) (by kernel_rfl) ?_ ?_; rotate_left; (· (intro w hSw; (try dsimp only at hSw); go_simp) <;> with_reducible rfl); (try simp only [Act.put,J1,J2,J3,J4,J5,J6]))
    refine SeqH.nil ?_
    refine Jr (rs:=[2]) (by kernel_rfl) (by simp) ?_
    refine Jd rfl (fun K hK => ?_) Je
    go_simp
    go_at_call 217
    refine (HL1 _).out.mono ?_
    rintro e wc ⟨rfl,hbc⟩
    have HBc : Hid (Below W3.heap.size W3 wc):=belS ((Below.refl W3.heap.size W3).drew) hbc
    clear hbc
    try dsimp only
    refine hK.out _ _ (HF5.out _ HBc.out) (fun hHeld => ?_)
    clear hK K
    try simp only [Act.put,J1,J2,J3,J4,J5,J6]
    refine z00 (f:=31) (by kernel_rfl) (by assumption) [(3,true),(4,true),(5,true)] rfl (by kernel_rfl) ?_
    repeat (refine SeqH.take (v:=?_) rfl (fun _ _ _ h => h) (by kernel_rfl) ?_ ?_; rotate_left; (· (intro w hSw; (try dsimp only at hSw); go_simp) <;> with_reducible rfl); (try simp only [Act.put,J1,J2,J3,J4,J5,J6]))
    refine SeqH.nil ?_
    refine Jr (rs:=[6]) (by kernel_rfl) (by simp) ?_
    refine Jd rfl (fun K hK => ?_) Je
    go_simp
    go_at_call 217
    refine (HL2 _).out.mono ?_
    rintro e wd ⟨rfl,hbd⟩
    have HBd : Hid (Below W3.heap.size W3 wd):=belS (HBc.out) hbd
    clear hbd
    try dsimp only
    refine hK.out _ _ (HF5.out _ HBd.out) (fun hHeld => ?_)
    clear hK K
    try simp only [Act.put,J1,J2,J3,J4,J5,J6]
    refine z00 (f:=17) (by kernel_rfl) (by assumption) [(7,true),(8,true),(9,true),(10,true),(11,true),(12,true),(13,true),(14,true),(15,true),(16,true),(17,true),(18,true),(19,true)] rfl (by kernel_rfl) ?_
    repeat (refine SeqH.take (v:=?_) rfl (fun _ _ _ h => h) (by kernel_rfl) ?_ ?_; rotate_left; (· (intro w hSw; (try dsimp only at hSw); go_simp) <;> with_reducible rfl); (try simp only [Act.put,J1,J2,J3,J4,J5,J6]))
    refine SeqH.nil ?_
    refine Jr (rs:=[20]) (by kernel_rfl) (by simp) ?_
    refine Jd rfl (fun K hK => ?_) Je
    go_simp
    go_at_call 53
    refine (HS0.out _ (HBd.out)).mono ?_
    rintro e wf ⟨rfl,hbf⟩
    have HBf : Hid (Below W3.heap.size W3 wf):=belS (HBd.out) hbf
    clear hbf
    try dsimp only
    refine hK.out _ _ (HF5.out _ HBf.out) (fun hHeld => ?_)
    clear hK K
    try simp only [Act.put,J1,J2,J3,J4,J5,J6]
    refine z00 (f:=3) (by kernel_rfl) (by assumption) [(21,true),(22,true),(23,true),(24,true),(25,true),(26,true),(27,true),(28,true),(29,true),(30,true),(31,true),(32,true),(33,true)] rfl (by kernel_rfl) ?_
    repeat (refine SeqH.take (v:=?_) rfl (fun _ _ _ h => h) (by kernel_rfl) ?_ ?_; rotate_left; (· (intro w hSw; (try dsimp only at hSw); go_simp) <;> with_reducible rfl); (try simp only [Act.put,J1,J2,J3,J4,J5,J6]))
    refine SeqH.nil ?_
    refine Jr (rs:=[34]) (by kernel_rfl) (by simp) ?_
    refine Jd rfl (fun K hK => ?_) Je
    go_simp
    go_at_call 53
    refine (HS1.out _ (HBf.out)).mono ?_
    rintro e wg ⟨rfl,hbg⟩
    have HBg : Hid (Below W3.heap.size W3 wg):=belS (HBf.out) hbg
    clear hbg
    try dsimp only
    refine hK.out _ _ (HF5.out _ HBg.out) (fun hHeld => ?_)
    clear hK K
    try simp only [Act.put,J1,J2,J3,J4,J5,J6]
    refine z00 (f:=0) (by kernel_rfl) (by assumption) [(35,true),(36,true)] rfl (by kernel_rfl) ?_
    repeat (refine SeqH.take (v:=?_) rfl (fun _ _ _ h => h) (by kernel_rfl) ?_ ?_; rotate_left; (· (intro w hSw; (try dsimp only at hSw); go_simp) <;> with_reducible rfl); (try simp only [Act.put,J1,J2,J3,J4,J5,J6]))
    refine SeqH.nil ?_
    refine wpAnyH_done (by kernel_rfl) ?_ _
    clear hHeld
    go_wp2_with fail
    all_goals go_ret
    all_goals exact ⟨rfl,HBW3.out _ (HBg.out)⟩
end Go.Proofs.YtockinpjfhhkoaaGreatDoor
