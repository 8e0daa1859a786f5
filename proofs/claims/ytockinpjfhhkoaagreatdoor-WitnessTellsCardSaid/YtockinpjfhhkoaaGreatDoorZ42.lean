/- Proofs of matches: a choice's. (Printed by gen_wbf.py.) -/
import Derived.Deep.RegionHeld
import Derived.Deep.Cut
import Derived.LoopTactic
import Derived.Test.YtockinpjfhhkoaaGreatDoorZ23
import Derived.Test.YtockinpjfhhkoaaGreatDoorZ22
set_option maxRecDepth 100000
set_option maxHeartbeats 16000000
open List renaming setIfInBounds_toArray → J1, set_cons_zero → J2, set_cons_succ → J3, getElem_toArray → J4, getElem_cons_zero → J5, getElem_cons_succ → J6
open Go.Lib renaming cell_of_heap → Jc, hid → Jh
open Go.AllReadyH renaming cons → Jd, nil → Je
open Go renaming wpAnyH_ready → Jr
open Go.RowKit.Below renaming heap_alloc → Jb
namespace Go.Proofs.YtockinpjfhhkoaaGreatDoor
open Go.RowKit
def one1 {α : Type} (f : α → Bool) : List α → Bool
 | [y] => f y
 | _ => false
theorem one1_no {α : Type} (f : α → Bool) : ∀ (l : List α),l.length ≠ 1 → one1 f l = false
 | [],_ => rfl
 | [_],h => absurd rfl h
 | _ :: _ :: _,_ => rfl
theorem len_one' {α : Type} (l : List α) (h : l.length = 1) : ∃ y,l = [y]:=by
 match l,h with
 | [y],_ => exact ⟨y,rfl⟩
theorem or172_any {names : List ByteArray} {m : Nat} {nv : Value} {la : Option Addr} {lc : Nat} {l : List (Int × Int)} {d n : Nat} (ih : ShowsC names m nv la lc l d n) (k : Int) (l1 : Nat) (i : Spn) (x1 x2 : XT m d) (a p b q wk sd : Int) (ats : List (Int × Int)) (of : List (PT n)) (l3 l4 : Nat) (hl3 : ats.length = l3) (hl4 : of.length = l4) (a1 a2 a3 a4 : Option Addr) (c1 c2 c3 c4 : Nat) (w : World)
 (he : EnvC names nv la lc l w) (hx : XRow w w.heap.size m d a2 [x1,x2]) (r1 : allX z02 d x1 = true) (r2 : allX z02 d x2 = true) (o1 : allX z11 d x1 = true) (o2 : allX z11 d x2 = true) (hp : PRow w w.heap.size n a4 of) (hk : ∀ y ∈ of,okT n y) (ht : mayP (a,p) = true) (hu : mayP (b,q) = true) (ia : in64 a) (ib : in64 b) :
 Calls Tryz.prog 172 #[.agg #[nv,.slice la l.length lc],.agg #[.int .u8 k,.slice a1 l1 c1,.slice a2 2 c2,.int .i64 i.low,.bool i.ls,.int .i64 i.high,.bool i.hs,.bool i.op],.agg #[.int .i64 a,.int .i64 p],.agg #[.int .i64 b,.int .i64 q],.agg #[.int .u8 wk,.int .u8 sd,.slice a3 l3 c3,.slice a4 l4 c4]] w fun e w' => e = .returned (.bool (decide (1 ≤ sd) && decide (sd ≤ 2) && ats.isEmpty && one1 (z08 (z09 names m) l n (if sd = 1 then toX d x1 else toX d x2) (a,p) (b,q)) of)) ∧ Below w.heap.size w w':=by
 obtain ⟨WB,hWWB⟩ : ∃ WB,WB = ((((w.alloc (.cells #[nv,.slice la l.length lc] 107)).alloc (.cells #[.int .u8 k,.slice a1 l1 c1,.slice a2 2 c2,.int .i64 i.low,.bool i.ls,.int .i64 i.high,.bool i.hs,.bool i.op] 47)).alloc (.cells #[.int .i64 a,.int .i64 p] 50)).alloc (.cells #[.int .i64 b,.int .i64 q] 50)).alloc (.cells #[.int .u8 wk,.int .u8 sd,.slice a3 l3 c3,.slice a4 l4 c4] 56):=⟨_,rfl⟩
 have hbWB : Below w.heap.size w WB:=by rw [hWWB]; exact ((((z0c _ _).alloc (by simp <;> omega) _).alloc (by simp <;> omega) _).alloc (by simp <;> omega) _).alloc (by simp <;> omega) _
 have hx0 : WB.heap[w.heap.size]? = some (.cells #[nv,.slice la l.length lc] 107 (0,0)):=by rw [hWWB]; exact (Jb _ _ _ (by simp <;> omega)).trans ((Jb _ _ _ (by simp <;> omega)).trans ((Jb _ _ _ (by simp <;> omega)).trans ((Jb _ _ _ (by simp <;> omega)).trans (z03 rfl))))
 have hx1 : WB.heap[w.heap.size + 1]? = some (.cells #[.int .u8 k,.slice a1 l1 c1,.slice a2 2 c2,.int .i64 i.low,.bool i.ls,.int .i64 i.high,.bool i.hs,.bool i.op] 47 (0,0)):=by rw [hWWB]; exact (Jb _ _ _ (by simp <;> omega)).trans ((Jb _ _ _ (by simp <;> omega)).trans ((Jb _ _ _ (by simp <;> omega)).trans (z03 (by simp))))
 have hx2 : WB.heap[w.heap.size + 1 + 1]? = some (.cells #[.int .i64 a,.int .i64 p] 50 (0,0)):=by rw [hWWB]; exact (Jb _ _ _ (by simp <;> omega)).trans ((Jb _ _ _ (by simp <;> omega)).trans (z03 (by simp)))
 have hx3 : WB.heap[w.heap.size + 1 + 1 + 1]? = some (.cells #[.int .i64 b,.int .i64 q] 50 (0,0)):=by rw [hWWB]; exact (Jb _ _ _ (by simp <;> omega)).trans (z03 (by simp))
 have hx4 : WB.heap[w.heap.size + 1 + 1 + 1 + 1]? = some (.cells #[.int .u8 wk,.int .u8 sd,.slice a3 l3 c3,.slice a4 l4 c4] 56 (0,0)):=by rw [hWWB]; exact z03 (by simp)
 have HX : Hid (∀ W,Below WB.heap.size WB W → W.heap[w.heap.size]? = some (.cells #[nv,.slice la l.length lc] 107 (0,0)) ∧ W.heap[w.heap.size + 1]? = some (.cells #[.int .u8 k,.slice a1 l1 c1,.slice a2 2 c2,.int .i64 i.low,.bool i.ls,.int .i64 i.high,.bool i.hs,.bool i.op] 47 (0,0)) ∧ W.heap[w.heap.size + 1 + 1]? = some (.cells #[.int .i64 a,.int .i64 p] 50 (0,0)) ∧ W.heap[w.heap.size + 1 + 1 + 1]? = some (.cells #[.int .i64 b,.int .i64 q] 50 (0,0)) ∧ W.heap[w.heap.size + 1 + 1 + 1 + 1]? = some (.cells #[.int .u8 wk,.int .u8 sd,.slice a3 l3 c3,.slice a4 l4 c4] 56 (0,0))):=fun W hW => ⟨(hW.block _ (Array.getElem?_eq_some_iff.1 hx0).1).trans hx0,(hW.block _ (Array.getElem?_eq_some_iff.1 hx1).1).trans hx1,(hW.block _ (Array.getElem?_eq_some_iff.1 hx2).1).trans hx2,(hW.block _ (Array.getElem?_eq_some_iff.1 hx3).1).trans hx3,(hW.block _ (Array.getElem?_eq_some_iff.1 hx4).1).trans hx4⟩
 have HF : Hid (∀ W,Below WB.heap.size WB W → W.cell? ⟨w.heap.size,0,none⟩ = some (nv) ∧ W.cell? ⟨w.heap.size,1,none⟩ = some (.slice la l.length lc) ∧ W.cell? ⟨w.heap.size + 1,0,none⟩ = some (.int .u8 k) ∧ W.cell? ⟨w.heap.size + 1,1,none⟩ = some (.slice a1 l1 c1) ∧ W.cell? ⟨w.heap.size + 1,2,none⟩ = some (.slice a2 2 c2) ∧ W.cell? ⟨w.heap.size + 1,3,none⟩ = some (.int .i64 i.low) ∧ W.cell? ⟨w.heap.size + 1,4,none⟩ = some (.bool i.ls) ∧ W.cell? ⟨w.heap.size + 1,5,none⟩ = some (.int .i64 i.high) ∧ W.cell? ⟨w.heap.size + 1,6,none⟩ = some (.bool i.hs) ∧ W.cell? ⟨w.heap.size + 1,7,none⟩ = some (.bool i.op) ∧ W.cell? ⟨w.heap.size + 1 + 1,0,none⟩ = some (.int .i64 a) ∧ W.cell? ⟨w.heap.size + 1 + 1,1,none⟩ = some (.int .i64 p) ∧ W.cell? ⟨w.heap.size + 1 + 1 + 1,0,none⟩ = some (.int .i64 b) ∧ W.cell? ⟨w.heap.size + 1 + 1 + 1,1,none⟩ = some (.int .i64 q) ∧ W.cell? ⟨w.heap.size + 1 + 1 + 1 + 1,0,none⟩ = some (.int .u8 wk) ∧ W.cell? ⟨w.heap.size + 1 + 1 + 1 + 1,1,none⟩ = some (.int .u8 sd) ∧ W.cell? ⟨w.heap.size + 1 + 1 + 1 + 1,2,none⟩ = some (.slice a3 l3 c3) ∧ W.cell? ⟨w.heap.size + 1 + 1 + 1 + 1,3,none⟩ = some (.slice a4 l4 c4) ∧ w.heap.size < W.heap.size ∧ w.heap.size + 1 < W.heap.size ∧ w.heap.size + 1 + 1 < W.heap.size ∧ w.heap.size + 1 + 1 + 1 < W.heap.size ∧ w.heap.size + 1 + 1 + 1 + 1 < W.heap.size):=by
  intro W hW
  obtain ⟨k0,k1,k2,k3,k4⟩:=HX.out W hW
  exact ⟨Jc k0 0,Jc k0 1,Jc k1 0,Jc k1 1,Jc k1 2,Jc k1 3,Jc k1 4,Jc k1 5,Jc k1 6,Jc k1 7,Jc k2 0,Jc k2 1,Jc k3 0,Jc k3 1,Jc k4 0,Jc k4 1,Jc k4 2,Jc k4 3,(Array.getElem?_eq_some_iff.1 k0).1,(Array.getElem?_eq_some_iff.1 k1).1,(Array.getElem?_eq_some_iff.1 k2).1,(Array.getElem?_eq_some_iff.1 k3).1,(Array.getElem?_eq_some_iff.1 k4).1⟩
 have HBB:=Jh hbWB
 have HWB:=Jh hWWB.symm
 clear hWWB hbWB hx0 hx1 hx2 hx3 hx4
 have HBW : Hid (∀ W,Below WB.heap.size WB W → Below w.heap.size w W):=fun W h => HBB.out.trans (h.mono HBB.out.size)
 have HEN : Hid (∀ W,Below WB.heap.size WB W → EnvC names nv la lc l W):=fun W h => he.up (HBW.out W h)
 have HF4 : Hid (∀ W,Below WB.heap.size WB W → W.cell? ⟨w.heap.size + 1 + 1 + 1 + 1,1,none⟩ = some (.int .u8 sd) ∧ W.cell? ⟨w.heap.size + 1 + 1 + 1 + 1,2,none⟩ = some (.slice a3 l3 c3) ∧ W.cell? ⟨w.heap.size + 1 + 1 + 1 + 1,3,none⟩ = some (.slice a4 l4 c4) ∧ w.heap.size + 1 + 1 + 1 + 1 < W.heap.size):=by
  intro W hW
  have hq:=HBW.out W hW
  obtain ⟨k0,k1,k2,k3,k4⟩:=HX.out W hW
  exact ⟨Jc k4 1,Jc k4 2,Jc k4 3,(Array.getElem?_eq_some_iff.1 k4).1⟩
 cases h1 : decide (1 ≤ sd) with
 | false =>
  clear ih hx hp hk ht hu ia ib he HEN hl3 hl4
  go_enter Tryz.func172,Tryz.ntmps172
  go_upto_region 1 with fail
  rw [HWB.out]
  clear HWB
  refine wrd (by kernel_rfl) HF4.out (((Below.refl WB.heap.size WB).drew)) (fun hHeld => ?_)
  refine z00 (f:=0) (by kernel_rfl) (by assumption) [(0,true),(1,true),(2,true),(3,true),(4,false),(5,false),(6,false),(7,true),(8,true),(9,false),(10,false),(11,false),(12,false),(13,true),(14,true),(15,false),(16,false),(17,false),(18,false),(19,true),(20,true),(21,false),(22,false),(23,false),(24,false),(25,false),(26,false),(27,false),(28,false),(29,false),(30,false),(31,false),(32,false),(33,false),(34,false),(35,false),(36,true),(37,true)] rfl (by kernel_rfl) ?_
  repeat (first | (refine SeqH.skip rfl (fun _ _ _ h => h) (by kernel_rfl) ?_; (try simp only [Act.put,J1,J2,J3,J4,J5,J6])) | (refine SeqH.take (v:=?_) rfl (fun _ _ _ h => h) (by kernel_rfl) ?_ ?_; rotate_left; (· (intro w hSw; (try dsimp only at hSw); go_simp) <;> with_reducible rfl); (try simp only [Act.put,J1,J2,J3,J4,J5,J6])))
  refine SeqH.nil ?_
  refine wpAnyH_done (by kernel_rfl) ?_ _
  clear hHeld
  go_wp2_with fail
  all_goals go_ret
  all_goals exact ⟨rfl,HBW.out _ ((Below.refl WB.heap.size WB).drew)⟩
 | true =>
 cases h2 : decide (sd ≤ 2) with
 | false =>
  clear ih hx hp hk ht hu ia ib he HEN hl3 hl4
  go_enter Tryz.func172,Tryz.ntmps172
  go_upto_region 1 with fail
  rw [HWB.out]
  clear HWB
  refine wrd (by kernel_rfl) HF4.out (((Below.refl WB.heap.size WB).drew)) (fun hHeld => ?_)
  refine z00 (f:=0) (by kernel_rfl) (by assumption) [(0,true),(1,true),(2,true),(3,true),(4,true),(5,true),(6,true),(7,true),(8,true),(9,false),(10,false),(11,false),(12,false),(13,true),(14,true),(15,false),(16,false),(17,false),(18,false),(19,true),(20,true),(21,false),(22,false),(23,false),(24,false),(25,false),(26,false),(27,false),(28,false),(29,false),(30,false),(31,false),(32,false),(33,false),(34,false),(35,false),(36,true),(37,true)] rfl (by kernel_rfl) ?_
  repeat (first | (refine SeqH.skip rfl (fun _ _ _ h => h) (by kernel_rfl) ?_; (try simp only [Act.put,J1,J2,J3,J4,J5,J6])) | (refine SeqH.take (v:=?_) rfl (fun _ _ _ h => h) (by kernel_rfl) ?_ ?_; rotate_left; (· (intro w hSw; (try dsimp only at hSw); go_simp) <;> with_reducible rfl); (try simp only [Act.put,J1,J2,J3,J4,J5,J6])))
  refine SeqH.nil ?_
  refine wpAnyH_done (by kernel_rfl) ?_ _
  clear hHeld
  go_wp2_with fail
  all_goals go_ret
  all_goals exact ⟨rfl,HBW.out _ ((Below.refl WB.heap.size WB).drew)⟩
 | true =>
 by_cases h6 : l3 = 0
 rotate_left
 ·have h3 : ((l3 : Int) == 0) = false:=by simp; exact h6
  have hae : ats.isEmpty = false:=by
   cases ats with
   | nil => exact absurd hl3.symm h6
   | cons _ _ => rfl
  rw [hae]
  clear ih hx hp hk ht hu ia ib he HEN h6 hae hl3 hl4
  go_enter Tryz.func172,Tryz.ntmps172
  go_upto_region 1 with fail
  rw [HWB.out]
  clear HWB
  refine wrd (by kernel_rfl) HF4.out (((Below.refl WB.heap.size WB).drew)) (fun hHeld => ?_)
  refine z00 (f:=0) (by kernel_rfl) (by assumption) [(0,true),(1,true),(2,true),(3,true),(4,true),(5,true),(6,true),(7,true),(8,true),(9,true),(10,true),(11,true),(12,true),(13,true),(14,true),(15,false),(16,false),(17,false),(18,false),(19,true),(20,true),(21,false),(22,false),(23,false),(24,false),(25,false),(26,false),(27,false),(28,false),(29,false),(30,false),(31,false),(32,false),(33,false),(34,false),(35,false),(36,true),(37,true)] rfl (by kernel_rfl) ?_
  repeat (first | (refine SeqH.skip rfl (fun _ _ _ h => h) (by kernel_rfl) ?_; (try simp only [Act.put,J1,J2,J3,J4,J5,J6])) | (refine SeqH.take (v:=?_) rfl (fun _ _ _ h => h) (by kernel_rfl) ?_ ?_; rotate_left; (· (intro w hSw; (try dsimp only at hSw); go_simp) <;> with_reducible rfl); (try simp only [Act.put,J1,J2,J3,J4,J5,J6])))
  refine SeqH.nil ?_
  refine wpAnyH_done (by kernel_rfl) ?_ _
  clear hHeld
  go_wp2_with fail
  all_goals go_ret
  all_goals exact ⟨rfl,HBW.out _ ((Below.refl WB.heap.size WB).drew)⟩
 obtain rfl : ats = []:=List.length_eq_zero_iff.1 (hl3.trans h6)
 have h3 : ((l3 : Int) == 0) = true:=by simp; exact h6
 by_cases h5 : of.length = 1
 rotate_left
 ·have h4 : ((l4 : Int) == 1) = false:=by rw [← hl4]; simp; omega
  rw [one1_no _ of h5]
  clear ih hx hp hk ht hu ia ib he HEN h5 h6 hl3 hl4
  go_enter Tryz.func172,Tryz.ntmps172
  go_upto_region 1 with fail
  rw [HWB.out]
  clear HWB
  refine wrd (by kernel_rfl) HF4.out (((Below.refl WB.heap.size WB).drew)) (fun hHeld => ?_)
  refine z00 (f:=0) (by kernel_rfl) (by assumption) [(0,true),(1,true),(2,true),(3,true),(4,true),(5,true),(6,true),(7,true),(8,true),(9,true),(10,true),(11,true),(12,true),(13,true),(14,true),(15,true),(16,true),(17,true),(18,true),(19,true),(20,true),(21,false),(22,false),(23,false),(24,false),(25,false),(26,false),(27,false),(28,false),(29,false),(30,false),(31,false),(32,false),(33,false),(34,false),(35,false),(36,true),(37,true)] rfl (by kernel_rfl) ?_
  repeat (first | (refine SeqH.skip rfl (fun _ _ _ h => h) (by kernel_rfl) ?_; (try simp only [Act.put,J1,J2,J3,J4,J5,J6])) | (refine SeqH.take (v:=?_) rfl (fun _ _ _ h => h) (by kernel_rfl) ?_ ?_; rotate_left; (· (intro w hSw; (try dsimp only at hSw); go_simp) <;> with_reducible rfl); (try simp only [Act.put,J1,J2,J3,J4,J5,J6])))
  refine SeqH.nil ?_
  refine wpAnyH_done (by kernel_rfl) ?_ _
  clear hHeld
  go_wp2_with fail
  all_goals go_ret
  all_goals exact ⟨rfl,HBW.out _ ((Below.refl WB.heap.size WB).drew)⟩
 obtain ⟨y,rfl⟩ : ∃ y,of = [y]:=len_one' of h5
 obtain rfl : l4 = 1:=by rw [← hl4]; rfl
 clear hl3 hl4 h5 h6
 have hky:=hk y (by simp)
 obtain ⟨y0b,y0o,y0k,y0s,y0a,y0l,y0c,y0d,y0m,y0e,hy0a,y0lt,y0f0,y0f1,y0f2,y0f3,hy0r⟩:=hp.at 0 (by simp)
 simp only [Nat.zero_mul,Nat.add_zero,J5] at y0f0 y0f1 y0f2 y0f3 hy0r
 by_cases hs1 : sd = 1
 ·subst hs1
  have hxe : toX d x1 = (if (1 : Int) = 1 then toX d x1 else toX d x2):=rfl
  obtain ⟨x0b,x0o,x0k,x0a,x0l,x0c,x0d,x0m,x0e,x0g,x0h,x0i,x0j,x0p,hx0a,x0lt,x0f0,x0f1,x0f2,x0f3,x0f4,x0f5,x0f6,x0f7,hx0r⟩:=hx.at 0 (by simp)
  simp only [Nat.zero_mul,Nat.add_zero,J5] at x0f0 x0f1 x0f2 x0f3 x0f4 x0f5 x0f6 x0f7 hx0r
  have HSH : Hid (∀ W,Below WB.heap.size WB W → Calls Tryz.prog 53 #[.agg #[nv,.slice la l.length lc],.agg #[.int .u8 x0k,.slice x0a x0l x0c,.slice x0d x0m x0e,.int .i64 x0g,.bool x0h,.int .i64 x0i,.bool x0j,.bool x0p],.agg #[.int .i64 a,.int .i64 p],.agg #[.int .i64 b,.int .i64 q],.agg #[.int .u8 y0k,.int .u8 y0s,.slice y0a y0l y0c,.slice y0d y0m y0e]] W fun e w' => e = .returned (.bool (z08 (z09 names m) l n (toX d x1) (a,p) (b,q) y)) ∧ Below W.heap.size W w'):=fun W h => ih _ _ _ _ _ _ _ _ W (HEN.out W h) (hx0r.up (HBW.out W h) (HBW.out W h).size) r1 o1 (PRep.up (HBW.out W h) (HBW.out W h).size hy0r) hky ht hu ia ib
  obtain ⟨R,hR⟩ : ∃ R,z08 (z09 names m) l n (toX d x1) (a,p) (b,q) y = R:=⟨_,rfl⟩
  rw [hR] at HSH
  rw [← hxe,show one1 (z08 (z09 names m) l n (toX d x1) (a,p) (b,q)) [y] = R from hR]
  subst hx0a hy0a
  have HF5 : Hid (∀ W,Below WB.heap.size WB W → W.cell? ⟨w.heap.size,0,none⟩ = some (nv) ∧ W.cell? ⟨w.heap.size,1,none⟩ = some (.slice la l.length lc) ∧ W.cell? ⟨w.heap.size + 1,2,none⟩ = some (.slice (some ⟨x0b,x0o,none⟩) 2 c2) ∧ W.cell? ⟨w.heap.size + 1 + 1,0,none⟩ = some (.int .i64 a) ∧ W.cell? ⟨w.heap.size + 1 + 1,1,none⟩ = some (.int .i64 p) ∧ W.cell? ⟨w.heap.size + 1 + 1 + 1,0,none⟩ = some (.int .i64 b) ∧ W.cell? ⟨w.heap.size + 1 + 1 + 1,1,none⟩ = some (.int .i64 q) ∧ W.cell? ⟨w.heap.size + 1 + 1 + 1 + 1,1,none⟩ = some (.int .u8 1) ∧ W.cell? ⟨w.heap.size + 1 + 1 + 1 + 1,2,none⟩ = some (.slice a3 l3 c3) ∧ W.cell? ⟨w.heap.size + 1 + 1 + 1 + 1,3,none⟩ = some (.slice (some ⟨y0b,y0o,none⟩) 1 c4) ∧ w.heap.size < W.heap.size ∧ w.heap.size + 1 < W.heap.size ∧ w.heap.size + 1 + 1 < W.heap.size ∧ w.heap.size + 1 + 1 + 1 < W.heap.size ∧ w.heap.size + 1 + 1 + 1 + 1 < W.heap.size ∧ W.cell? ⟨x0b,x0o,none⟩ = some (.int .u8 x0k) ∧ W.cell? ⟨x0b,x0o + 1,none⟩ = some (.slice x0a x0l x0c) ∧ W.cell? ⟨x0b,x0o + 2,none⟩ = some (.slice x0d x0m x0e) ∧ W.cell? ⟨x0b,x0o + 3,none⟩ = some (.int .i64 x0g) ∧ W.cell? ⟨x0b,x0o + 4,none⟩ = some (.bool x0h) ∧ W.cell? ⟨x0b,x0o + 5,none⟩ = some (.int .i64 x0i) ∧ W.cell? ⟨x0b,x0o + 6,none⟩ = some (.bool x0j) ∧ W.cell? ⟨x0b,x0o + 7,none⟩ = some (.bool x0p) ∧ x0b < W.heap.size ∧ W.cell? ⟨y0b,y0o,none⟩ = some (.int .u8 y0k) ∧ W.cell? ⟨y0b,y0o + 1,none⟩ = some (.int .u8 y0s) ∧ W.cell? ⟨y0b,y0o + 2,none⟩ = some (.slice y0a y0l y0c) ∧ W.cell? ⟨y0b,y0o + 3,none⟩ = some (.slice y0d y0m y0e) ∧ y0b < W.heap.size):=by
   intro W hW
   have hq:=HBW.out W hW
   obtain ⟨k0,k1,k2,k3,k4⟩:=HX.out W hW
   exact ⟨Jc k0 0,Jc k0 1,Jc k1 2,Jc k2 0,Jc k2 1,Jc k3 0,Jc k3 1,Jc k4 1,Jc k4 2,Jc k4 3,(Array.getElem?_eq_some_iff.1 k0).1,(Array.getElem?_eq_some_iff.1 k1).1,(Array.getElem?_eq_some_iff.1 k2).1,(Array.getElem?_eq_some_iff.1 k3).1,(Array.getElem?_eq_some_iff.1 k4).1,(hq.cell (p:=⟨x0b,_,none⟩) x0lt).trans x0f0,(hq.cell (p:=⟨x0b,_,none⟩) x0lt).trans x0f1,(hq.cell (p:=⟨x0b,_,none⟩) x0lt).trans x0f2,(hq.cell (p:=⟨x0b,_,none⟩) x0lt).trans x0f3,(hq.cell (p:=⟨x0b,_,none⟩) x0lt).trans x0f4,(hq.cell (p:=⟨x0b,_,none⟩) x0lt).trans x0f5,(hq.cell (p:=⟨x0b,_,none⟩) x0lt).trans x0f6,(hq.cell (p:=⟨x0b,_,none⟩) x0lt).trans x0f7,Nat.lt_of_lt_of_le x0lt hq.size,(hq.cell (p:=⟨y0b,_,none⟩) y0lt).trans y0f0,(hq.cell (p:=⟨y0b,_,none⟩) y0lt).trans y0f1,(hq.cell (p:=⟨y0b,_,none⟩) y0lt).trans y0f2,(hq.cell (p:=⟨y0b,_,none⟩) y0lt).trans y0f3,Nat.lt_of_lt_of_le y0lt hq.size⟩
  have hw0 : IntKind.u8.wrap 0 = 0:=by decide
  clear ih hx hp hk ht hu ia ib he hR hxe x0f0 x0f1 x0f2 x0f3 x0f4 x0f5 x0f6 x0f7 y0f0 y0f1 y0f2 y0f3 hx0r hy0r x0lt y0lt
  go_enter Tryz.func172,Tryz.ntmps172
  go_upto_region 1 with fail
  rw [HWB.out]
  clear HWB
  refine wrd (by kernel_rfl) HF5.out (((Below.refl WB.heap.size WB).drew)) (fun hHeld => ?_)
  refine z00 (f:=3) (by kernel_rfl) (by assumption) [(0,true),(1,true),(2,true),(3,true),(4,true),(5,true),(6,true),(7,true),(8,true),(9,true),(10,true),(11,true),(12,true),(13,true),(14,true),(15,true),(16,true),(17,true),(18,true),(19,true),(20,true),(21,true),(22,true),(23,true),(24,true),(25,true),(26,true),(27,true),(28,true),(29,true),(30,true),(31,true),(32,true),(33,true),(34,true)] rfl (by kernel_rfl) ?_
  repeat (refine SeqH.take (v:=?_) rfl (fun _ _ _ h => h) (by kernel_rfl) ?_ ?_; rotate_left; (· (intro w hSw; (try dsimp only at hSw); go_simp) <;> with_reducible rfl); (try simp only [Act.put,J1,J2,J3,J4,J5,J6]))
  refine SeqH.nil ?_
  refine Jr (rs:=[35]) (by kernel_rfl) (by simp) ?_
  refine Jd rfl (fun K hK => ?_) Je
  go_simp
  go_at_call 53
  refine (HSH.out _ ((Below.refl WB.heap.size WB).drew)).mono ?_
  rintro e wc ⟨rfl,hbc⟩
  have HBc : Hid (Below WB.heap.size WB wc):=belS ((Below.refl WB.heap.size WB).drew) hbc
  clear hbc
  try dsimp only
  refine hK.out _ _ (HF5.out _ HBc.out) (fun hHeld => ?_)
  clear hK K
  try simp only [Act.put,J1,J2,J3,J4,J5,J6]
  refine z00 (f:=0) (by kernel_rfl) (by assumption) [(36,true),(37,true)] rfl (by kernel_rfl) ?_
  repeat (refine SeqH.take (v:=?_) rfl (fun _ _ _ h => h) (by kernel_rfl) ?_ ?_; rotate_left; (· (intro w hSw; (try dsimp only at hSw); go_simp) <;> with_reducible rfl); (try simp only [Act.put,J1,J2,J3,J4,J5,J6]))
  refine SeqH.nil ?_
  refine wpAnyH_done (by kernel_rfl) ?_ _
  clear hHeld
  go_wp2_with fail
  all_goals go_ret
  all_goals exact ⟨rfl,HBW.out _ (HBc.out)⟩
 ·obtain rfl : sd = 2:=by simp at h1 h2; omega
  have hxe : toX d x2 = (if (2 : Int) = 1 then toX d x1 else toX d x2):=rfl
  obtain ⟨x0b,x0o,x0k,x0a,x0l,x0c,x0d,x0m,x0e,x0g,x0h,x0i,x0j,x0p,hx0a,x0lt,x0f0,x0f1,x0f2,x0f3,x0f4,x0f5,x0f6,x0f7,hx0r⟩:=hx.at 1 (by simp)
  simp only [Nat.one_mul,J5,J6] at x0f0 x0f1 x0f2 x0f3 x0f4 x0f5 x0f6 x0f7 hx0r
  have HSH : Hid (∀ W,Below WB.heap.size WB W → Calls Tryz.prog 53 #[.agg #[nv,.slice la l.length lc],.agg #[.int .u8 x0k,.slice x0a x0l x0c,.slice x0d x0m x0e,.int .i64 x0g,.bool x0h,.int .i64 x0i,.bool x0j,.bool x0p],.agg #[.int .i64 a,.int .i64 p],.agg #[.int .i64 b,.int .i64 q],.agg #[.int .u8 y0k,.int .u8 y0s,.slice y0a y0l y0c,.slice y0d y0m y0e]] W fun e w' => e = .returned (.bool (z08 (z09 names m) l n (toX d x2) (a,p) (b,q) y)) ∧ Below W.heap.size W w'):=fun W h => ih _ _ _ _ _ _ _ _ W (HEN.out W h) (hx0r.up (HBW.out W h) (HBW.out W h).size) r2 o2 (PRep.up (HBW.out W h) (HBW.out W h).size hy0r) hky ht hu ia ib
  obtain ⟨R,hR⟩ : ∃ R,z08 (z09 names m) l n (toX d x2) (a,p) (b,q) y = R:=⟨_,rfl⟩
  rw [hR] at HSH
  rw [← hxe,show one1 (z08 (z09 names m) l n (toX d x2) (a,p) (b,q)) [y] = R from hR]
  subst hx0a hy0a
  have HF5 : Hid (∀ W,Below WB.heap.size WB W → W.cell? ⟨w.heap.size,0,none⟩ = some (nv) ∧ W.cell? ⟨w.heap.size,1,none⟩ = some (.slice la l.length lc) ∧ W.cell? ⟨w.heap.size + 1,2,none⟩ = some (.slice (some ⟨x0b,x0o,none⟩) 2 c2) ∧ W.cell? ⟨w.heap.size + 1 + 1,0,none⟩ = some (.int .i64 a) ∧ W.cell? ⟨w.heap.size + 1 + 1,1,none⟩ = some (.int .i64 p) ∧ W.cell? ⟨w.heap.size + 1 + 1 + 1,0,none⟩ = some (.int .i64 b) ∧ W.cell? ⟨w.heap.size + 1 + 1 + 1,1,none⟩ = some (.int .i64 q) ∧ W.cell? ⟨w.heap.size + 1 + 1 + 1 + 1,1,none⟩ = some (.int .u8 2) ∧ W.cell? ⟨w.heap.size + 1 + 1 + 1 + 1,2,none⟩ = some (.slice a3 l3 c3) ∧ W.cell? ⟨w.heap.size + 1 + 1 + 1 + 1,3,none⟩ = some (.slice (some ⟨y0b,y0o,none⟩) 1 c4) ∧ w.heap.size < W.heap.size ∧ w.heap.size + 1 < W.heap.size ∧ w.heap.size + 1 + 1 < W.heap.size ∧ w.heap.size + 1 + 1 + 1 < W.heap.size ∧ w.heap.size + 1 + 1 + 1 + 1 < W.heap.size ∧ W.cell? ⟨x0b,x0o + 8,none⟩ = some (.int .u8 x0k) ∧ W.cell? ⟨x0b,x0o + 8 + 1,none⟩ = some (.slice x0a x0l x0c) ∧ W.cell? ⟨x0b,x0o + 8 + 2,none⟩ = some (.slice x0d x0m x0e) ∧ W.cell? ⟨x0b,x0o + 8 + 3,none⟩ = some (.int .i64 x0g) ∧ W.cell? ⟨x0b,x0o + 8 + 4,none⟩ = some (.bool x0h) ∧ W.cell? ⟨x0b,x0o + 8 + 5,none⟩ = some (.int .i64 x0i) ∧ W.cell? ⟨x0b,x0o + 8 + 6,none⟩ = some (.bool x0j) ∧ W.cell? ⟨x0b,x0o + 8 + 7,none⟩ = some (.bool x0p) ∧ x0b < W.heap.size ∧ W.cell? ⟨y0b,y0o,none⟩ = some (.int .u8 y0k) ∧ W.cell? ⟨y0b,y0o + 1,none⟩ = some (.int .u8 y0s) ∧ W.cell? ⟨y0b,y0o + 2,none⟩ = some (.slice y0a y0l y0c) ∧ W.cell? ⟨y0b,y0o + 3,none⟩ = some (.slice y0d y0m y0e) ∧ y0b < W.heap.size):=by
   intro W hW
   have hq:=HBW.out W hW
   obtain ⟨k0,k1,k2,k3,k4⟩:=HX.out W hW
   exact ⟨Jc k0 0,Jc k0 1,Jc k1 2,Jc k2 0,Jc k2 1,Jc k3 0,Jc k3 1,Jc k4 1,Jc k4 2,Jc k4 3,(Array.getElem?_eq_some_iff.1 k0).1,(Array.getElem?_eq_some_iff.1 k1).1,(Array.getElem?_eq_some_iff.1 k2).1,(Array.getElem?_eq_some_iff.1 k3).1,(Array.getElem?_eq_some_iff.1 k4).1,(hq.cell (p:=⟨x0b,_,none⟩) x0lt).trans x0f0,(hq.cell (p:=⟨x0b,_,none⟩) x0lt).trans x0f1,(hq.cell (p:=⟨x0b,_,none⟩) x0lt).trans x0f2,(hq.cell (p:=⟨x0b,_,none⟩) x0lt).trans x0f3,(hq.cell (p:=⟨x0b,_,none⟩) x0lt).trans x0f4,(hq.cell (p:=⟨x0b,_,none⟩) x0lt).trans x0f5,(hq.cell (p:=⟨x0b,_,none⟩) x0lt).trans x0f6,(hq.cell (p:=⟨x0b,_,none⟩) x0lt).trans x0f7,Nat.lt_of_lt_of_le x0lt hq.size,(hq.cell (p:=⟨y0b,_,none⟩) y0lt).trans y0f0,(hq.cell (p:=⟨y0b,_,none⟩) y0lt).trans y0f1,(hq.cell (p:=⟨y0b,_,none⟩) y0lt).trans y0f2,(hq.cell (p:=⟨y0b,_,none⟩) y0lt).trans y0f3,Nat.lt_of_lt_of_le y0lt hq.size⟩
  have hw0 : IntKind.u8.wrap 1 = 1:=by decide
  clear ih hx hp hk ht hu ia ib he hR hxe x0f0 x0f1 x0f2 x0f3 x0f4 x0f5 x0f6 x0f7 y0f0 y0f1 y0f2 y0f3 hx0r hy0r x0lt y0lt
  go_enter Tryz.func172,Tryz.ntmps172
  go_upto_region 1 with fail
  rw [HWB.out]
  clear HWB
  refine wrd (by kernel_rfl) HF5.out (((Below.refl WB.heap.size WB).drew)) (fun hHeld => ?_)
  refine z00 (f:=3) (by kernel_rfl) (by assumption) [(0,true),(1,true),(2,true),(3,true),(4,true),(5,true),(6,true),(7,true),(8,true),(9,true),(10,true),(11,true),(12,true),(13,true),(14,true),(15,true),(16,true),(17,true),(18,true),(19,true),(20,true),(21,true),(22,true),(23,true),(24,true),(25,true),(26,true),(27,true),(28,true),(29,true),(30,true),(31,true),(32,true),(33,true),(34,true)] rfl (by kernel_rfl) ?_
  repeat (refine SeqH.take (v:=?_) rfl (fun _ _ _ h => h) (by kernel_rfl) ?_ ?_; rotate_left; (· (intro w hSw; (try dsimp only at hSw); go_simp) <;> with_reducible rfl); (try simp only [Act.put,J1,J2,J3,J4,J5,J6]))
  refine SeqH.nil ?_
  refine Jr (rs:=[35]) (by kernel_rfl) (by simp) ?_
  refine Jd rfl (fun K hK => ?_) Je
  go_simp
  go_at_call 53
  refine (HSH.out _ ((Below.refl WB.heap.size WB).drew)).mono ?_
  rintro e wc ⟨rfl,hbc⟩
  have HBc : Hid (Below WB.heap.size WB wc):=belS ((Below.refl WB.heap.size WB).drew) hbc
  clear hbc
  try dsimp only
  refine hK.out _ _ (HF5.out _ HBc.out) (fun hHeld => ?_)
  clear hK K
  try simp only [Act.put,J1,J2,J3,J4,J5,J6]
  refine z00 (f:=0) (by kernel_rfl) (by assumption) [(36,true),(37,true)] rfl (by kernel_rfl) ?_
  repeat (refine SeqH.take (v:=?_) rfl (fun _ _ _ h => h) (by kernel_rfl) ?_ ?_; rotate_left; (· (intro w hSw; (try dsimp only at hSw); go_simp) <;> with_reducible rfl); (try simp only [Act.put,J1,J2,J3,J4,J5,J6]))
  refine SeqH.nil ?_
  refine wpAnyH_done (by kernel_rfl) ?_ _
  clear hHeld
  go_wp2_with fail
  all_goals go_ret
  all_goals exact ⟨rfl,HBW.out _ (HBc.out)⟩
end Go.Proofs.YtockinpjfhhkoaaGreatDoor
