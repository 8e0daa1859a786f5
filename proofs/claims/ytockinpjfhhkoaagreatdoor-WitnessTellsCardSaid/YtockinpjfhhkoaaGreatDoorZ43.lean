/- Proofs of matches: a timed expression's. (Printed by gen_wbi.py.) -/
import Derived.Deep.RegionHeld
import Derived.Deep.Cut
import Derived.LoopTactic
import Derived.Test.YtockinpjfhhkoaaGreatDoorZ23
import Derived.Test.YtockinpjfhhkoaaGreatDoorZ42
set_option maxRecDepth 100000
set_option maxHeartbeats 16000000
open List renaming setIfInBounds_toArray → J1, set_cons_zero → J2, set_cons_succ → J3, getElem_toArray → J4, getElem_cons_zero → J5, getElem_cons_succ → J6
open Go.Lib renaming cell_of_heap → Jc, hid → Jh
open Go.AllReadyH renaming cons → Jd, nil → Je
open Go renaming wpAnyH_ready → Jr
open Go.RowKit.Below renaming heap_alloc → Jb
namespace Go.Proofs.YtockinpjfhhkoaaGreatDoor
open Go.RowKit
theorem bare_one {α β : Type} {sd : Int} {l3 l4 : Nat} {ats : List β} {of : List α} (f : α → Bool) (hl3 : ats.length = l3) (hl4 : of.length = l4) (h : ((sd == 0) && ((l3 : Int) == 0) && ((l4 : Int) == 1)) = false) : (sd == 0 && ats.isEmpty && one1 f of) = false:=by
 rw [z4o hl3]
 by_cases h4 : of.length = 1
 ·have : ((l4 : Int) == 1) = true:=by rw [← hl4,h4]; rfl
  rw [this,Bool.and_true] at h
  rw [h]; rfl
 ·rw [one1_no f of h4,Bool.and_false]
theorem timed176_any {names : List ByteArray} {m : Nat} {nv : Value} {la : Option Addr} {lc : Nat} {l : List (Int × Int)} {d n : Nat} (ih : ShowsC names m nv la lc l d n) (k : Int) (l1 : Nat) (lo : Int) (ls : Bool) (hi : Int) (hs op : Bool) (x1 : XT m d) (a p b q wk sd : Int) (ats : List (Int × Int)) (of : List (PT n)) (l3 l4 : Nat) (hl3 : ats.length = l3) (hl4 : of.length = l4) (a1 a2 a3 a4 : Option Addr) (c1 c2 c3 c4 : Nat) (w : World)
 (he : EnvC names nv la lc l w) (hx : XRow w w.heap.size m d a2 [x1]) (r1 : allX z02 d x1 = true) (o1 : allX z11 d x1 = true) (b1 : -288230376151711744 ≤ lo) (b2 : lo ≤ 288230376151711744) (b3 : -288230376151711744 ≤ hi) (b4 : hi ≤ 288230376151711744) (hp : PRow w w.heap.size n a4 of) (hk : ∀ y ∈ of,okT n y) (ht : mayP (a,p) = true) (hu : mayP (b,q) = true) (ia : in64 a) (ib : in64 b) :
 Calls Tryz.prog 176 #[.agg #[nv,.slice la l.length lc],.agg #[.int .u8 k,.slice a1 l1 c1,.slice a2 1 c2,.int .i64 lo,.bool ls,.int .i64 hi,.bool hs,.bool op],.agg #[.int .i64 a,.int .i64 p],.agg #[.int .i64 b,.int .i64 q],.agg #[.int .u8 wk,.int .u8 sd,.slice a3 l3 c3,.slice a4 l4 c4]] w fun e w' => e = .returned (.bool (sd == 0 && ats.isEmpty && one1 (fun y => z2k (a,p) (b,q) ⟨lo,ls,hi,hs,op⟩ && z08 (z09 names m) l n (toX d x1) (a,p) (b,q) y) of)) ∧ Below w.heap.size w w':=by
 obtain ⟨WB,hWWB⟩ : ∃ WB,WB = ((((w.alloc (.cells #[nv,.slice la l.length lc] 107)).alloc (.cells #[.int .u8 k,.slice a1 l1 c1,.slice a2 1 c2,.int .i64 lo,.bool ls,.int .i64 hi,.bool hs,.bool op] 47)).alloc (.cells #[.int .i64 a,.int .i64 p] 50)).alloc (.cells #[.int .i64 b,.int .i64 q] 50)).alloc (.cells #[.int .u8 wk,.int .u8 sd,.slice a3 l3 c3,.slice a4 l4 c4] 56):=⟨_,rfl⟩
 have hbWB : Below w.heap.size w WB:=by rw [hWWB]; exact ((((z0c _ _).alloc (by simp <;> omega) _).alloc (by simp <;> omega) _).alloc (by simp <;> omega) _).alloc (by simp <;> omega) _
 have hx0 : WB.heap[w.heap.size]? = some (.cells #[nv,.slice la l.length lc] 107 (0,0)):=by rw [hWWB]; exact (Jb _ _ _ (by simp <;> omega)).trans ((Jb _ _ _ (by simp <;> omega)).trans ((Jb _ _ _ (by simp <;> omega)).trans ((Jb _ _ _ (by simp <;> omega)).trans (z03 rfl))))
 have hx1 : WB.heap[w.heap.size + 1]? = some (.cells #[.int .u8 k,.slice a1 l1 c1,.slice a2 1 c2,.int .i64 lo,.bool ls,.int .i64 hi,.bool hs,.bool op] 47 (0,0)):=by rw [hWWB]; exact (Jb _ _ _ (by simp <;> omega)).trans ((Jb _ _ _ (by simp <;> omega)).trans ((Jb _ _ _ (by simp <;> omega)).trans (z03 (by simp))))
 have hx2 : WB.heap[w.heap.size + 1 + 1]? = some (.cells #[.int .i64 a,.int .i64 p] 50 (0,0)):=by rw [hWWB]; exact (Jb _ _ _ (by simp <;> omega)).trans ((Jb _ _ _ (by simp <;> omega)).trans (z03 (by simp)))
 have hx3 : WB.heap[w.heap.size + 1 + 1 + 1]? = some (.cells #[.int .i64 b,.int .i64 q] 50 (0,0)):=by rw [hWWB]; exact (Jb _ _ _ (by simp <;> omega)).trans (z03 (by simp))
 have hx4 : WB.heap[w.heap.size + 1 + 1 + 1 + 1]? = some (.cells #[.int .u8 wk,.int .u8 sd,.slice a3 l3 c3,.slice a4 l4 c4] 56 (0,0)):=by rw [hWWB]; exact z03 (by simp)
 have HX : Hid (∀ W,Below WB.heap.size WB W → W.heap[w.heap.size]? = some (.cells #[nv,.slice la l.length lc] 107 (0,0)) ∧ W.heap[w.heap.size + 1]? = some (.cells #[.int .u8 k,.slice a1 l1 c1,.slice a2 1 c2,.int .i64 lo,.bool ls,.int .i64 hi,.bool hs,.bool op] 47 (0,0)) ∧ W.heap[w.heap.size + 1 + 1]? = some (.cells #[.int .i64 a,.int .i64 p] 50 (0,0)) ∧ W.heap[w.heap.size + 1 + 1 + 1]? = some (.cells #[.int .i64 b,.int .i64 q] 50 (0,0)) ∧ W.heap[w.heap.size + 1 + 1 + 1 + 1]? = some (.cells #[.int .u8 wk,.int .u8 sd,.slice a3 l3 c3,.slice a4 l4 c4] 56 (0,0))):=fun W hW => ⟨(hW.block _ (Array.getElem?_eq_some_iff.1 hx0).1).trans hx0,(hW.block _ (Array.getElem?_eq_some_iff.1 hx1).1).trans hx1,(hW.block _ (Array.getElem?_eq_some_iff.1 hx2).1).trans hx2,(hW.block _ (Array.getElem?_eq_some_iff.1 hx3).1).trans hx3,(hW.block _ (Array.getElem?_eq_some_iff.1 hx4).1).trans hx4⟩
 have HF : Hid (∀ W,Below WB.heap.size WB W → W.cell? ⟨w.heap.size,0,none⟩ = some (nv) ∧ W.cell? ⟨w.heap.size,1,none⟩ = some (.slice la l.length lc) ∧ W.cell? ⟨w.heap.size + 1,0,none⟩ = some (.int .u8 k) ∧ W.cell? ⟨w.heap.size + 1,1,none⟩ = some (.slice a1 l1 c1) ∧ W.cell? ⟨w.heap.size + 1,2,none⟩ = some (.slice a2 1 c2) ∧ W.cell? ⟨w.heap.size + 1,3,none⟩ = some (.int .i64 lo) ∧ W.cell? ⟨w.heap.size + 1,4,none⟩ = some (.bool ls) ∧ W.cell? ⟨w.heap.size + 1,5,none⟩ = some (.int .i64 hi) ∧ W.cell? ⟨w.heap.size + 1,6,none⟩ = some (.bool hs) ∧ W.cell? ⟨w.heap.size + 1,7,none⟩ = some (.bool op) ∧ W.cell? ⟨w.heap.size + 1 + 1,0,none⟩ = some (.int .i64 a) ∧ W.cell? ⟨w.heap.size + 1 + 1,1,none⟩ = some (.int .i64 p) ∧ W.cell? ⟨w.heap.size + 1 + 1 + 1,0,none⟩ = some (.int .i64 b) ∧ W.cell? ⟨w.heap.size + 1 + 1 + 1,1,none⟩ = some (.int .i64 q) ∧ W.cell? ⟨w.heap.size + 1 + 1 + 1 + 1,0,none⟩ = some (.int .u8 wk) ∧ W.cell? ⟨w.heap.size + 1 + 1 + 1 + 1,1,none⟩ = some (.int .u8 sd) ∧ W.cell? ⟨w.heap.size + 1 + 1 + 1 + 1,2,none⟩ = some (.slice a3 l3 c3) ∧ W.cell? ⟨w.heap.size + 1 + 1 + 1 + 1,3,none⟩ = some (.slice a4 l4 c4) ∧ w.heap.size < W.heap.size ∧ w.heap.size + 1 < W.heap.size ∧ w.heap.size + 1 + 1 < W.heap.size ∧ w.heap.size + 1 + 1 + 1 < W.heap.size ∧ w.heap.size + 1 + 1 + 1 + 1 < W.heap.size):=by
  intro W hW
  obtain ⟨k0,k1,k2,k3,k4⟩:=HX.out W hW
  exact ⟨Jc k0 0,Jc k0 1,Jc k1 0,Jc k1 1,Jc k1 2,Jc k1 3,Jc k1 4,Jc k1 5,Jc k1 6,Jc k1 7,Jc k2 0,Jc k2 1,Jc k3 0,Jc k3 1,Jc k4 0,Jc k4 1,Jc k4 2,Jc k4 3,(Array.getElem?_eq_some_iff.1 k0).1,(Array.getElem?_eq_some_iff.1 k1).1,(Array.getElem?_eq_some_iff.1 k2).1,(Array.getElem?_eq_some_iff.1 k3).1,(Array.getElem?_eq_some_iff.1 k4).1⟩
 have HBB:=Jh hbWB
 have HWB:=Jh hWWB.symm
 clear hWWB hbWB hx0 hx1 hx2 hx3 hx4
 have HBW : Hid (∀ W,Below WB.heap.size WB W → Below w.heap.size w W):=fun W h => HBB.out.trans (h.mono HBB.out.size)
 have HEN : Hid (∀ W,Below WB.heap.size WB W → EnvC names nv la lc l W):=fun W h => he.up (HBW.out W h)
 have H1:=fun W => Jh (z4c wk sd 1 a3 a4 l3 l4 c3 c4 W)
 have H2:=fun W => Jh (z5m (n:=-lo) ls W ht hu ia ib (by omega) (by omega))
 have H3:=fun W => Jh (z5m (n:=hi) hs W hu ht ib ia b3 b4)
 have HLQ : Hid (z2k (a,p) (b,q) ⟨lo,ls,hi,hs,op⟩ = (z0s a p b q (2 * -lo + if ls then 0 else 1) && (op || z0s b q a p (2 * hi + if hs then 0 else 1)))):=rfl
 obtain ⟨K1,hK1⟩ : ∃ K,z0s a p b q (2 * -lo + if ls then 0 else 1) = K:=⟨_,rfl⟩
 obtain ⟨K2,hK2⟩ : ∃ K,z0s b q a p (2 * hi + if hs then 0 else 1) = K:=⟨_,rfl⟩
 rw [hK1] at H2 HLQ
 rw [hK2] at H3 HLQ
 obtain ⟨nl,hnl⟩ : ∃ nl,-lo = nl:=⟨_,rfl⟩
 rw [hnl] at H2
 have v1 : IntKind.i64.wrap (-lo) = nl:=by rw [hnl]; exact IntWalk.i64_in _ (by omega)
 have v1' : wrap64 (-lo) = nl:=by rw [hnl]; exact IntWalk.wrap64_in _ (by omega)
 clear hK1 hK2 hnl b1 b2 b3 b4
 obtain ⟨W3,hW3⟩ : ∃ W3,W3 = WB.alloc (.cells #[.int .i64 lo,.bool ls,.int .i64 hi,.bool hs,.bool op] 45):=⟨_,rfl⟩
 have hb3 : Below WB.heap.size WB W3:=by rw [hW3]; exact z0c _ _
 have hx3 : W3.heap[WB.heap.size]? = some (.cells #[.int .i64 lo,.bool ls,.int .i64 hi,.bool hs,.bool op] 45 (0,0)):=by rw [hW3]; exact z03 rfl
 have HX3 : Hid (∀ W,Below W3.heap.size W3 W → W.heap[WB.heap.size]? = some (.cells #[.int .i64 lo,.bool ls,.int .i64 hi,.bool hs,.bool op] 45 (0,0))):=fun W h => (h.block _ (Array.getElem?_eq_some_iff.1 hx3).1).trans hx3
 have HB3:=Jh hb3
 have HW3:=Jh hW3.symm
 have HBW3 : Hid (∀ W,Below W3.heap.size W3 W → Below w.heap.size w W):=fun W h => HBW.out W (belS HB3.out h)
 have HEN3 : Hid (∀ W,Below W3.heap.size W3 W → EnvC names nv la lc l W):=fun W h => HEN.out W (belS HB3.out h)
 clear hx3 hb3 hW3
 have HF1 : Hid (∀ W,Below WB.heap.size WB W → W.cell? ⟨w.heap.size + 1,3,none⟩ = some (.int .i64 lo) ∧ W.cell? ⟨w.heap.size + 1,4,none⟩ = some (.bool ls) ∧ W.cell? ⟨w.heap.size + 1,5,none⟩ = some (.int .i64 hi) ∧ W.cell? ⟨w.heap.size + 1,6,none⟩ = some (.bool hs) ∧ W.cell? ⟨w.heap.size + 1,7,none⟩ = some (.bool op) ∧ w.heap.size + 1 < W.heap.size):=by
  intro W hW
  have hq:=HBW.out W hW
  obtain ⟨k0,k1,k2,k3,k4⟩:=HX.out W hW
  exact ⟨Jc k1 3,Jc k1 4,Jc k1 5,Jc k1 6,Jc k1 7,(Array.getElem?_eq_some_iff.1 k1).1⟩
 have HF4 : Hid (∀ W,Below W3.heap.size W3 W → W.cell? ⟨w.heap.size + 1 + 1 + 1 + 1,0,none⟩ = some (.int .u8 wk) ∧ W.cell? ⟨w.heap.size + 1 + 1 + 1 + 1,1,none⟩ = some (.int .u8 sd) ∧ W.cell? ⟨w.heap.size + 1 + 1 + 1 + 1,2,none⟩ = some (.slice a3 l3 c3) ∧ W.cell? ⟨w.heap.size + 1 + 1 + 1 + 1,3,none⟩ = some (.slice a4 l4 c4) ∧ w.heap.size + 1 + 1 + 1 + 1 < W.heap.size):=by
  intro W hW
  have hq:=HBW3.out W hW
  obtain ⟨k0,k1,k2,k3,k4⟩:=HX.out W (belS HB3.out hW)
  have k7:=HX3.out W hW
  exact ⟨Jc k4 0,Jc k4 1,Jc k4 2,Jc k4 3,(Array.getElem?_eq_some_iff.1 k4).1⟩
 by_cases hb1 : ((sd == 0) && ((l3 : Int) == 0) && ((l4 : Int) == 1)) = true
 rotate_left
 ·have hb0:=Bool.eq_false_iff.2 hb1
  rw [bare_one _ hl3 hl4 hb0]
  rw [hb0] at H1
  clear ih hx hp hk ht hu ia ib he HEN HEN3 hl3 hl4 hb0 hb1 HLQ
  go_enter Tryz.func176,Tryz.ntmps176
  go_upto_region 1 with fail
  rw [HWB.out]
  clear HWB
  obtain ⟨z0,z1,z2,z3,z4,z5⟩:=HF1.out WB (Below.refl _ _)
  go_upto_region 3 with fail
  rw [HW3.out]
  clear HW3 z0 z1 z2 z3 z4 z5
  refine wrd (by kernel_rfl) HF4.out (((Below.refl W3.heap.size W3).drew)) (fun hHeld => ?_)
  refine z00 (f:=41) (by kernel_rfl) (by assumption) [(0,true)] rfl (by kernel_rfl) ?_
  repeat (refine SeqH.take (v:=?_) rfl (fun _ _ _ h => h) (by kernel_rfl) ?_ ?_; rotate_left; (· (intro w hSw; (try dsimp only at hSw); go_simp) <;> with_reducible rfl); (try simp only [Act.put,J1,J2,J3,J4,J5]))
  refine SeqH.nil ?_
  refine Jr (rs:=[1]) (by kernel_rfl) (by simp) ?_
  refine Jd rfl (fun K hK => ?_) Je
  go_simp
  go_at_call 216
  refine (H1 _).out.mono ?_
  rintro e wc ⟨rfl,hbc⟩
  have HBc : Hid (Below W3.heap.size W3 wc):=belS ((Below.refl W3.heap.size W3).drew) hbc
  clear hbc
  try dsimp only
  refine hK.out _ _ (HF4.out _ HBc.out) (fun hHeld => ?_)
  clear hK K
  try simp only [Act.put,J1,J2,J3,J4,J5,J6]
  refine z00 (f:=0) (by kernel_rfl) (by assumption) [(2,true),(3,false),(4,false),(5,false),(6,false),(7,false),(8,false),(9,false),(10,false),(11,false),(12,true),(13,true),(14,false),(15,false),(16,false),(17,false),(18,false),(19,false),(20,false),(21,false),(22,false),(23,false),(24,false),(25,false),(26,true),(27,true),(28,false),(29,false),(30,false),(31,false),(32,false),(33,false),(34,false),(35,false),(36,false),(37,false),(38,false),(39,false),(40,true),(41,true)] rfl (by kernel_rfl) ?_
  repeat (first | (refine SeqH.skip rfl (fun _ _ _ h => h) (by kernel_rfl) ?_; (try simp only [Act.put,J1,J2,J3,J4,J5,J6])) | (refine SeqH.take (v:=?_) rfl (fun _ _ _ h => h) (by kernel_rfl) ?_ ?_; rotate_left; (· (intro w hSw; (try dsimp only at hSw); go_simp) <;> with_reducible rfl); (try simp only [Act.put,J1,J2,J3,J4,J5,J6])))
  refine SeqH.nil ?_
  refine wpAnyH_done (by kernel_rfl) ?_ _
  clear hHeld
  go_wp2_with fail
  all_goals go_ret
  all_goals exact ⟨rfl,HBW3.out _ (HBc.out)⟩
 rw [hb1] at H1
 simp only [Bool.and_eq_true,beq_iff_eq] at hb1
 obtain ⟨⟨rfl,h3⟩,h4⟩:=hb1
 obtain rfl : l3 = 0:=by omega
 obtain rfl : l4 = 1:=by omega
 obtain rfl : ats = []:=List.length_eq_zero_iff.1 hl3
 obtain ⟨y,rfl⟩:=len_one' of hl4
 have hky:=hk y (by simp)
 obtain ⟨y0b,y0o,y0k,y0s,y0a,y0l,y0c,y0d,y0m,y0e,hy0a,y0lt,y0f0,y0f1,y0f2,y0f3,hy0r⟩:=hp.at 0 (by simp)
 simp only [Nat.zero_mul,Nat.add_zero,J5] at y0f0 y0f1 y0f2 y0f3 hy0r
 obtain ⟨x0b,x0o,x0k,x0a,x0l,x0c,x0d,x0m,x0e,x0g,x0h,x0i,x0j,x0p,hx0a,x0lt,x0f0,x0f1,x0f2,x0f3,x0f4,x0f5,x0f6,x0f7,hx0r⟩:=hx.at 0 (by simp)
 simp only [Nat.zero_mul,Nat.add_zero,J5] at x0f0 x0f1 x0f2 x0f3 x0f4 x0f5 x0f6 x0f7 hx0r
 subst hx0a hy0a
 have HS0 : Hid (∀ W,Below W3.heap.size W3 W → Calls Tryz.prog 53 #[.agg #[nv,.slice la l.length lc],.agg #[.int .u8 x0k,.slice x0a x0l x0c,.slice x0d x0m x0e,.int .i64 x0g,.bool x0h,.int .i64 x0i,.bool x0j,.bool x0p],.agg #[.int .i64 a,.int .i64 p],.agg #[.int .i64 b,.int .i64 q],.agg #[.int .u8 y0k,.int .u8 y0s,.slice y0a y0l y0c,.slice y0d y0m y0e]] W fun e w' => e = .returned (.bool (z08 (z09 names m) l n (toX d x1) (a,p) (b,q) y)) ∧ Below W.heap.size W w'):=fun W h => ih _ _ _ _ _ _ _ _ W (HEN3.out W h) (hx0r.up (HBW3.out W h) (HBW3.out W h).size) r1 o1 (PRep.up (HBW3.out W h) (HBW3.out W h).size hy0r) hky ht hu ia ib
 obtain ⟨R0,hR0⟩ : ∃ R,z08 (z09 names m) l n (toX d x1) (a,p) (b,q) y = R:=⟨_,rfl⟩
 rw [hR0] at HS0
 rw [show ((0 : Int) == 0 && ([] : List (Int × Int)).isEmpty && one1 (fun y => z2k (a,p) (b,q) ⟨lo,ls,hi,hs,op⟩ && z08 (z09 names m) l n (toX d x1) (a,p) (b,q) y) [y]) = ((K1 && (op || K2)) && R0) by rw [← hR0,← HLQ.out]; rfl]
 have HF5 : Hid (∀ W,Below W3.heap.size W3 W → W.cell? ⟨w.heap.size,0,none⟩ = some (nv) ∧ W.cell? ⟨w.heap.size,1,none⟩ = some (.slice la l.length lc) ∧ W.cell? ⟨w.heap.size + 1,2,none⟩ = some (.slice (some ⟨x0b,x0o,none⟩) 1 c2) ∧ W.cell? ⟨w.heap.size + 1 + 1,0,none⟩ = some (.int .i64 a) ∧ W.cell? ⟨w.heap.size + 1 + 1,1,none⟩ = some (.int .i64 p) ∧ W.cell? ⟨w.heap.size + 1 + 1 + 1,0,none⟩ = some (.int .i64 b) ∧ W.cell? ⟨w.heap.size + 1 + 1 + 1,1,none⟩ = some (.int .i64 q) ∧ W.cell? ⟨w.heap.size + 1 + 1 + 1 + 1,0,none⟩ = some (.int .u8 wk) ∧ W.cell? ⟨w.heap.size + 1 + 1 + 1 + 1,1,none⟩ = some (.int .u8 0) ∧ W.cell? ⟨w.heap.size + 1 + 1 + 1 + 1,2,none⟩ = some (.slice a3 0 c3) ∧ W.cell? ⟨w.heap.size + 1 + 1 + 1 + 1,3,none⟩ = some (.slice (some ⟨y0b,y0o,none⟩) 1 c4) ∧ w.heap.size < W.heap.size ∧ w.heap.size + 1 < W.heap.size ∧ w.heap.size + 1 + 1 < W.heap.size ∧ w.heap.size + 1 + 1 + 1 < W.heap.size ∧ w.heap.size + 1 + 1 + 1 + 1 < W.heap.size ∧ W.cell? ⟨x0b,x0o,none⟩ = some (.int .u8 x0k) ∧ W.cell? ⟨x0b,x0o + 1,none⟩ = some (.slice x0a x0l x0c) ∧ W.cell? ⟨x0b,x0o + 2,none⟩ = some (.slice x0d x0m x0e) ∧ W.cell? ⟨x0b,x0o + 3,none⟩ = some (.int .i64 x0g) ∧ W.cell? ⟨x0b,x0o + 4,none⟩ = some (.bool x0h) ∧ W.cell? ⟨x0b,x0o + 5,none⟩ = some (.int .i64 x0i) ∧ W.cell? ⟨x0b,x0o + 6,none⟩ = some (.bool x0j) ∧ W.cell? ⟨x0b,x0o + 7,none⟩ = some (.bool x0p) ∧ x0b < W.heap.size ∧ W.cell? ⟨y0b,y0o,none⟩ = some (.int .u8 y0k) ∧ W.cell? ⟨y0b,y0o + 1,none⟩ = some (.int .u8 y0s) ∧ W.cell? ⟨y0b,y0o + 2,none⟩ = some (.slice y0a y0l y0c) ∧ W.cell? ⟨y0b,y0o + 3,none⟩ = some (.slice y0d y0m y0e) ∧ y0b < W.heap.size ∧ W.cell? ⟨WB.heap.size,0,none⟩ = some (.int .i64 lo) ∧ W.cell? ⟨WB.heap.size,1,none⟩ = some (.bool ls) ∧ W.cell? ⟨WB.heap.size,2,none⟩ = some (.int .i64 hi) ∧ W.cell? ⟨WB.heap.size,3,none⟩ = some (.bool hs) ∧ W.cell? ⟨WB.heap.size,4,none⟩ = some (.bool op) ∧ WB.heap.size < W.heap.size):=by
  intro W hW
  have hq:=HBW3.out W hW
  obtain ⟨k0,k1,k2,k3,k4⟩:=HX.out W (belS HB3.out hW)
  have k7:=HX3.out W hW
  exact ⟨Jc k0 0,Jc k0 1,Jc k1 2,Jc k2 0,Jc k2 1,Jc k3 0,Jc k3 1,Jc k4 0,Jc k4 1,Jc k4 2,Jc k4 3,(Array.getElem?_eq_some_iff.1 k0).1,(Array.getElem?_eq_some_iff.1 k1).1,(Array.getElem?_eq_some_iff.1 k2).1,(Array.getElem?_eq_some_iff.1 k3).1,(Array.getElem?_eq_some_iff.1 k4).1,(hq.cell (p:=⟨x0b,_,none⟩) x0lt).trans x0f0,(hq.cell (p:=⟨x0b,_,none⟩) x0lt).trans x0f1,(hq.cell (p:=⟨x0b,_,none⟩) x0lt).trans x0f2,(hq.cell (p:=⟨x0b,_,none⟩) x0lt).trans x0f3,(hq.cell (p:=⟨x0b,_,none⟩) x0lt).trans x0f4,(hq.cell (p:=⟨x0b,_,none⟩) x0lt).trans x0f5,(hq.cell (p:=⟨x0b,_,none⟩) x0lt).trans x0f6,(hq.cell (p:=⟨x0b,_,none⟩) x0lt).trans x0f7,Nat.lt_of_lt_of_le x0lt hq.size,(hq.cell (p:=⟨y0b,_,none⟩) y0lt).trans y0f0,(hq.cell (p:=⟨y0b,_,none⟩) y0lt).trans y0f1,(hq.cell (p:=⟨y0b,_,none⟩) y0lt).trans y0f2,(hq.cell (p:=⟨y0b,_,none⟩) y0lt).trans y0f3,Nat.lt_of_lt_of_le y0lt hq.size,Jc k7 0,Jc k7 1,Jc k7 2,Jc k7 3,Jc k7 4,(Array.getElem?_eq_some_iff.1 k7).1⟩
 clear ih hx hp hk ht hu ia ib he hR0 hl3 hl4 h3 h4 hky HLQ x0f0 x0f1 x0f2 x0f3 x0f4 x0f5 x0f6 x0f7 y0f0 y0f1 y0f2 y0f3 hx0r hy0r x0lt y0lt
 cases K1 with
 | false =>
  go_enter Tryz.func176,Tryz.ntmps176
  go_upto_region 1 with fail
  rw [HWB.out]
  clear HWB
  obtain ⟨z0,z1,z2,z3,z4,z5⟩:=HF1.out WB (Below.refl _ _)
  go_upto_region 3 with fail
  rw [HW3.out]
  clear HW3 z0 z1 z2 z3 z4 z5
  refine wrd (by kernel_rfl) HF5.out (((Below.refl W3.heap.size W3).drew)) (fun hHeld => ?_)
  refine z00 (f:=41) (by kernel_rfl) (by assumption) [(0,true)] rfl (by kernel_rfl) ?_
  repeat (refine SeqH.take (v:=?_) rfl (fun _ _ _ h => h) (by kernel_rfl) ?_ ?_; rotate_left; (· (intro w hSw; (try dsimp only at hSw); go_simp) <;> with_reducible rfl); (try simp only [Act.put,J1,J2,J3,J4,J5]))
  refine SeqH.nil ?_
  refine Jr (rs:=[1]) (by kernel_rfl) (by simp) ?_
  refine Jd rfl (fun K hK => ?_) Je
  go_simp
  go_at_call 216
  refine (H1 _).out.mono ?_
  rintro e wc ⟨rfl,hbc⟩
  have HBc : Hid (Below W3.heap.size W3 wc):=belS ((Below.refl W3.heap.size W3).drew) hbc
  clear hbc
  try dsimp only
  refine hK.out _ _ (HF5.out _ HBc.out) (fun hHeld => ?_)
  clear hK K
  try simp only [Act.put,J1,J2,J3,J4,J5,J6]
  refine z00 (f:=31) (by kernel_rfl) (by assumption) [(2,true),(3,true),(4,true),(5,true),(6,true),(7,true),(8,true),(9,true),(10,true)] rfl (by kernel_rfl) ?_
  repeat (refine SeqH.take (v:=?_) rfl (fun _ _ _ h => h) (by kernel_rfl) ?_ ?_; rotate_left; (· (intro w hSw; (try dsimp only at hSw); go_simp) <;> with_reducible rfl); (try simp only [Act.put,J1,J2,J3,J4,J5,J6]))
  refine SeqH.nil ?_
  refine Jr (rs:=[11]) (by kernel_rfl) (by simp) ?_
  refine Jd rfl (fun K hK => ?_) Je
  go_simp
  go_at_call 218
  refine (H2 _).out.mono ?_
  rintro e wd ⟨rfl,hbd⟩
  have HBd : Hid (Below W3.heap.size W3 wd):=belS (HBc.out) hbd
  clear hbd
  try dsimp only
  refine hK.out _ _ (HF5.out _ HBd.out) (fun hHeld => ?_)
  clear hK K
  try simp only [Act.put,J1,J2,J3,J4,J5,J6]
  refine z00 (f:=0) (by kernel_rfl) (by assumption) [(12,true),(13,true),(14,false),(15,false),(16,false),(17,false),(18,false),(19,false),(20,false),(21,false),(22,false),(23,false),(24,false),(25,false),(26,true),(27,true),(28,false),(29,false),(30,false),(31,false),(32,false),(33,false),(34,false),(35,false),(36,false),(37,false),(38,false),(39,false),(40,true),(41,true)] rfl (by kernel_rfl) ?_
  repeat (first | (refine SeqH.skip rfl (fun _ _ _ h => h) (by kernel_rfl) ?_; (try simp only [Act.put,J1,J2,J3,J4,J5,J6])) | (refine SeqH.take (v:=?_) rfl (fun _ _ _ h => h) (by kernel_rfl) ?_ ?_; rotate_left; (· (intro w hSw; (try dsimp only at hSw); go_simp) <;> with_reducible rfl); (try simp only [Act.put,J1,J2,J3,J4,J5,J6])))
  refine SeqH.nil ?_
  refine wpAnyH_done (by kernel_rfl) ?_ _
  clear hHeld
  go_wp2_with fail
  all_goals go_ret
  all_goals exact ⟨rfl,HBW3.out _ (HBd.out)⟩
 | true =>
  cases op with
  | true =>
   go_enter Tryz.func176,Tryz.ntmps176
   go_upto_region 1 with fail
   rw [HWB.out]
   clear HWB
   obtain ⟨z0,z1,z2,z3,z4,z5⟩:=HF1.out WB (Below.refl _ _)
   go_upto_region 3 with fail
   rw [HW3.out]
   clear HW3 z0 z1 z2 z3 z4 z5
   refine wrd (by kernel_rfl) HF5.out (((Below.refl W3.heap.size W3).drew)) (fun hHeld => ?_)
   refine z00 (f:=41) (by kernel_rfl) (by assumption) [(0,true)] rfl (by kernel_rfl) ?_
   repeat (refine SeqH.take (v:=?_) rfl (fun _ _ _ h => h) (by kernel_rfl) ?_ ?_; rotate_left; (· (intro w hSw; (try dsimp only at hSw); go_simp) <;> with_reducible rfl); (try simp only [Act.put,J1,J2,J3,J4,J5]))
   refine SeqH.nil ?_
   refine Jr (rs:=[1]) (by kernel_rfl) (by simp) ?_
   refine Jd rfl (fun K hK => ?_) Je
   go_simp
   go_at_call 216
   refine (H1 _).out.mono ?_
   rintro e wc ⟨rfl,hbc⟩
   have HBc : Hid (Below W3.heap.size W3 wc):=belS ((Below.refl W3.heap.size W3).drew) hbc
   clear hbc
   try dsimp only
   refine hK.out _ _ (HF5.out _ HBc.out) (fun hHeld => ?_)
   clear hK K
   try simp only [Act.put,J1,J2,J3,J4,J5,J6]
   refine z00 (f:=31) (by kernel_rfl) (by assumption) [(2,true),(3,true),(4,true),(5,true),(6,true),(7,true),(8,true),(9,true),(10,true)] rfl (by kernel_rfl) ?_
   repeat (refine SeqH.take (v:=?_) rfl (fun _ _ _ h => h) (by kernel_rfl) ?_ ?_; rotate_left; (· (intro w hSw; (try dsimp only at hSw); go_simp) <;> with_reducible rfl); (try simp only [Act.put,J1,J2,J3,J4,J5,J6]))
   refine SeqH.nil ?_
   refine Jr (rs:=[11]) (by kernel_rfl) (by simp) ?_
   refine Jd rfl (fun K hK => ?_) Je
   go_simp
   go_at_call 218
   refine (H2 _).out.mono ?_
   rintro e wd ⟨rfl,hbd⟩
   have HBd : Hid (Below W3.heap.size W3 wd):=belS (HBc.out) hbd
   clear hbd
   try dsimp only
   refine hK.out _ _ (HF5.out _ HBd.out) (fun hHeld => ?_)
   clear hK K
   try simp only [Act.put,J1,J2,J3,J4,J5,J6]
   refine z00 (f:=3) (by kernel_rfl) (by assumption) [(12,true),(13,true),(14,true),(15,true),(16,true),(17,false),(18,false),(19,false),(20,false),(21,false),(22,false),(23,false),(24,false),(25,true),(26,true),(27,true),(28,true),(29,true),(30,true),(31,true),(32,true),(33,true),(34,true),(35,true),(36,true),(37,true),(38,true)] rfl (by kernel_rfl) ?_
   repeat (first | (refine SeqH.skip rfl (fun _ _ _ h => h) (by kernel_rfl) ?_; (try simp only [Act.put,J1,J2,J3,J4,J5,J6])) | (refine SeqH.take (v:=?_) rfl (fun _ _ _ h => h) (by kernel_rfl) ?_ ?_; rotate_left; (· (intro w hSw; (try dsimp only at hSw); go_simp) <;> with_reducible rfl); (try simp only [Act.put,J1,J2,J3,J4,J5,J6])))
   refine SeqH.nil ?_
   refine Jr (rs:=[39]) (by kernel_rfl) (by simp) ?_
   refine Jd rfl (fun K hK => ?_) Je
   go_simp
   go_at_call 53
   refine (HS0.out _ (HBd.out)).mono ?_
   rintro e wg ⟨rfl,hbg⟩
   have HBg : Hid (Below W3.heap.size W3 wg):=belS (HBd.out) hbg
   clear hbg
   try dsimp only
   refine hK.out _ _ (HF5.out _ HBg.out) (fun hHeld => ?_)
   clear hK K
   try simp only [Act.put,J1,J2,J3,J4,J5,J6]
   refine z00 (f:=0) (by kernel_rfl) (by assumption) [(40,true),(41,true)] rfl (by kernel_rfl) ?_
   repeat (refine SeqH.take (v:=?_) rfl (fun _ _ _ h => h) (by kernel_rfl) ?_ ?_; rotate_left; (· (intro w hSw; (try dsimp only at hSw); go_simp) <;> with_reducible rfl); (try simp only [Act.put,J1,J2,J3,J4,J5,J6]))
   refine SeqH.nil ?_
   refine wpAnyH_done (by kernel_rfl) ?_ _
   clear hHeld
   go_wp2_with fail
   all_goals go_ret
   all_goals exact ⟨rfl,HBW3.out _ (HBg.out)⟩
  | false =>
   cases K2 with
   | false =>
    go_enter Tryz.func176,Tryz.ntmps176
    go_upto_region 1 with fail
    rw [HWB.out]
    clear HWB
    obtain ⟨z0,z1,z2,z3,z4,z5⟩:=HF1.out WB (Below.refl _ _)
    go_upto_region 3 with fail
    rw [HW3.out]
    clear HW3 z0 z1 z2 z3 z4 z5
    refine wrd (by kernel_rfl) HF5.out (((Below.refl W3.heap.size W3).drew)) (fun hHeld => ?_)
    refine z00 (f:=41) (by kernel_rfl) (by assumption) [(0,true)] rfl (by kernel_rfl) ?_
    repeat (refine SeqH.take (v:=?_) rfl (fun _ _ _ h => h) (by kernel_rfl) ?_ ?_; rotate_left; (· (intro w hSw; (try dsimp only at hSw); go_simp) <;> with_reducible rfl); (try simp only [Act.put,J1,J2,J3,J4,J5]))
    refine SeqH.nil ?_
    refine Jr (rs:=[1]) (by kernel_rfl) (by simp) ?_
    refine Jd rfl (fun K hK => ?_) Je
    go_simp
    go_at_call 216
    refine (H1 _).out.mono ?_
    rintro e wc ⟨rfl,hbc⟩
    have HBc : Hid (Below W3.heap.size W3 wc):=belS ((Below.refl W3.heap.size W3).drew) hbc
    clear hbc
    try dsimp only
    refine hK.out _ _ (HF5.out _ HBc.out) (fun hHeld => ?_)
    clear hK K
    try simp only [Act.put,J1,J2,J3,J4,J5,J6]
    refine z00 (f:=31) (by kernel_rfl) (by assumption) [(2,true),(3,true),(4,true),(5,true),(6,true),(7,true),(8,true),(9,true),(10,true)] rfl (by kernel_rfl) ?_
    repeat (refine SeqH.take (v:=?_) rfl (fun _ _ _ h => h) (by kernel_rfl) ?_ ?_; rotate_left; (· (intro w hSw; (try dsimp only at hSw); go_simp) <;> with_reducible rfl); (try simp only [Act.put,J1,J2,J3,J4,J5,J6]))
    refine SeqH.nil ?_
    refine Jr (rs:=[11]) (by kernel_rfl) (by simp) ?_
    refine Jd rfl (fun K hK => ?_) Je
    go_simp
    go_at_call 218
    refine (H2 _).out.mono ?_
    rintro e wd ⟨rfl,hbd⟩
    have HBd : Hid (Below W3.heap.size W3 wd):=belS (HBc.out) hbd
    clear hbd
    try dsimp only
    refine hK.out _ _ (HF5.out _ HBd.out) (fun hHeld => ?_)
    clear hK K
    try simp only [Act.put,J1,J2,J3,J4,J5,J6]
    refine z00 (f:=18) (by kernel_rfl) (by assumption) [(12,true),(13,true),(14,true),(15,true),(16,true),(17,true),(18,true),(19,true),(20,true),(21,true),(22,true),(23,true)] rfl (by kernel_rfl) ?_
    repeat (refine SeqH.take (v:=?_) rfl (fun _ _ _ h => h) (by kernel_rfl) ?_ ?_; rotate_left; (· (intro w hSw; (try dsimp only at hSw); go_simp) <;> with_reducible rfl); (try simp only [Act.put,J1,J2,J3,J4,J5,J6]))
    refine SeqH.nil ?_
    refine Jr (rs:=[24]) (by kernel_rfl) (by simp) ?_
    refine Jd rfl (fun K hK => ?_) Je
    go_simp
    go_at_call 218
    refine (H3 _).out.mono ?_
    rintro e wf ⟨rfl,hbf⟩
    have HBf : Hid (Below W3.heap.size W3 wf):=belS (HBd.out) hbf
    clear hbf
    try dsimp only
    refine hK.out _ _ (HF5.out _ HBf.out) (fun hHeld => ?_)
    clear hK K
    try simp only [Act.put,J1,J2,J3,J4,J5,J6]
    refine z00 (f:=0) (by kernel_rfl) (by assumption) [(25,true),(26,true),(27,true),(28,false),(29,false),(30,false),(31,false),(32,false),(33,false),(34,false),(35,false),(36,false),(37,false),(38,false),(39,false),(40,true),(41,true)] rfl (by kernel_rfl) ?_
    repeat (first | (refine SeqH.skip rfl (fun _ _ _ h => h) (by kernel_rfl) ?_; (try simp only [Act.put,J1,J2,J3,J4,J5,J6])) | (refine SeqH.take (v:=?_) rfl (fun _ _ _ h => h) (by kernel_rfl) ?_ ?_; rotate_left; (· (intro w hSw; (try dsimp only at hSw); go_simp) <;> with_reducible rfl); (try simp only [Act.put,J1,J2,J3,J4,J5,J6])))
    refine SeqH.nil ?_
    refine wpAnyH_done (by kernel_rfl) ?_ _
    clear hHeld
    go_wp2_with fail
    all_goals go_ret
    all_goals exact ⟨rfl,HBW3.out _ (HBf.out)⟩
   | true =>
    go_enter Tryz.func176,Tryz.ntmps176
    go_upto_region 1 with fail
    rw [HWB.out]
    clear HWB
    obtain ⟨z0,z1,z2,z3,z4,z5⟩:=HF1.out WB (Below.refl _ _)
    go_upto_region 3 with fail
    rw [HW3.out]
    clear HW3 z0 z1 z2 z3 z4 z5
    refine wrd (by kernel_rfl) HF5.out (((Below.refl W3.heap.size W3).drew)) (fun hHeld => ?_)
    refine z00 (f:=41) (by kernel_rfl) (by assumption) [(0,true)] rfl (by kernel_rfl) ?_
    repeat (refine SeqH.take (v:=?_) rfl (fun _ _ _ h => h) (by kernel_rfl) ?_ ?_; rotate_left; (· (intro w hSw; (try dsimp only at hSw); go_simp) <;> with_reducible rfl); (try simp only [Act.put,J1,J2,J3,J4,J5]))
    refine SeqH.nil ?_
    refine Jr (rs:=[1]) (by kernel_rfl) (by simp) ?_
    refine Jd rfl (fun K hK => ?_) Je
    go_simp
    go_at_call 216
    refine (H1 _).out.mono ?_
    rintro e wc ⟨rfl,hbc⟩
    have HBc : Hid (Below W3.heap.size W3 wc):=belS ((Below.refl W3.heap.size W3).drew) hbc
    clear hbc
    try dsimp only
    refine hK.out _ _ (HF5.out _ HBc.out) (fun hHeld => ?_)
    clear hK K
    try simp only [Act.put,J1,J2,J3,J4,J5,J6]
    refine z00 (f:=31) (by kernel_rfl) (by assumption) [(2,true),(3,true),(4,true),(5,true),(6,true),(7,true),(8,true),(9,true),(10,true)] rfl (by kernel_rfl) ?_
    repeat (refine SeqH.take (v:=?_) rfl (fun _ _ _ h => h) (by kernel_rfl) ?_ ?_; rotate_left; (· (intro w hSw; (try dsimp only at hSw); go_simp) <;> with_reducible rfl); (try simp only [Act.put,J1,J2,J3,J4,J5,J6]))
    refine SeqH.nil ?_
    refine Jr (rs:=[11]) (by kernel_rfl) (by simp) ?_
    refine Jd rfl (fun K hK => ?_) Je
    go_simp
    go_at_call 218
    refine (H2 _).out.mono ?_
    rintro e wd ⟨rfl,hbd⟩
    have HBd : Hid (Below W3.heap.size W3 wd):=belS (HBc.out) hbd
    clear hbd
    try dsimp only
    refine hK.out _ _ (HF5.out _ HBd.out) (fun hHeld => ?_)
    clear hK K
    try simp only [Act.put,J1,J2,J3,J4,J5,J6]
    refine z00 (f:=18) (by kernel_rfl) (by assumption) [(12,true),(13,true),(14,true),(15,true),(16,true),(17,true),(18,true),(19,true),(20,true),(21,true),(22,true),(23,true)] rfl (by kernel_rfl) ?_
    repeat (refine SeqH.take (v:=?_) rfl (fun _ _ _ h => h) (by kernel_rfl) ?_ ?_; rotate_left; (· (intro w hSw; (try dsimp only at hSw); go_simp) <;> with_reducible rfl); (try simp only [Act.put,J1,J2,J3,J4,J5,J6]))
    refine SeqH.nil ?_
    refine Jr (rs:=[24]) (by kernel_rfl) (by simp) ?_
    refine Jd rfl (fun K hK => ?_) Je
    go_simp
    go_at_call 218
    refine (H3 _).out.mono ?_
    rintro e wf ⟨rfl,hbf⟩
    have HBf : Hid (Below W3.heap.size W3 wf):=belS (HBd.out) hbf
    clear hbf
    try dsimp only
    refine hK.out _ _ (HF5.out _ HBf.out) (fun hHeld => ?_)
    clear hK K
    try simp only [Act.put,J1,J2,J3,J4,J5,J6]
    refine z00 (f:=3) (by kernel_rfl) (by assumption) [(25,true),(26,true),(27,true),(28,true),(29,true),(30,true),(31,true),(32,true),(33,true),(34,true),(35,true),(36,true),(37,true),(38,true)] rfl (by kernel_rfl) ?_
    repeat (refine SeqH.take (v:=?_) rfl (fun _ _ _ h => h) (by kernel_rfl) ?_ ?_; rotate_left; (· (intro w hSw; (try dsimp only at hSw); go_simp) <;> with_reducible rfl); (try simp only [Act.put,J1,J2,J3,J4,J5,J6]))
    refine SeqH.nil ?_
    refine Jr (rs:=[39]) (by kernel_rfl) (by simp) ?_
    refine Jd rfl (fun K hK => ?_) Je
    go_simp
    go_at_call 53
    refine (HS0.out _ (HBf.out)).mono ?_
    rintro e wg ⟨rfl,hbg⟩
    have HBg : Hid (Below W3.heap.size W3 wg):=belS (HBf.out) hbg
    clear hbg
    try dsimp only
    refine hK.out _ _ (HF5.out _ HBg.out) (fun hHeld => ?_)
    clear hK K
    try simp only [Act.put,J1,J2,J3,J4,J5,J6]
    refine z00 (f:=0) (by kernel_rfl) (by assumption) [(40,true),(41,true)] rfl (by kernel_rfl) ?_
    repeat (refine SeqH.take (v:=?_) rfl (fun _ _ _ h => h) (by kernel_rfl) ?_ ?_; rotate_left; (· (intro w hSw; (try dsimp only at hSw); go_simp) <;> with_reducible rfl); (try simp only [Act.put,J1,J2,J3,J4,J5,J6]))
    refine SeqH.nil ?_
    refine wpAnyH_done (by kernel_rfl) ?_ _
    clear hHeld
    go_wp2_with fail
    all_goals go_ret
    all_goals exact ⟨rfl,HBW3.out _ (HBg.out)⟩
end Go.Proofs.YtockinpjfhhkoaaGreatDoor
