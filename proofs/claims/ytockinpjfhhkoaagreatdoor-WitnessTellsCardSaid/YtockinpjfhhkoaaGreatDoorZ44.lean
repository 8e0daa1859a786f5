/- Proofs of matches: a repetition's. (Printed by gen_wbj.py.) -/
import Derived.Deep.RegionHeld
import Derived.Deep.Cut
import Derived.LoopTactic
import Derived.Test.YtockinpjfhhkoaaGreatDoorZ23
import Derived.Test.YtockinpjfhhkoaaGreatDoorZ38
import Derived.Test.YtockinpjfhhkoaaGreatDoorZ05
set_option maxRecDepth 100000
set_option maxHeartbeats 16000000
open List renaming setIfInBounds_toArray → J1, set_cons_zero → J2, set_cons_succ → J3, getElem_toArray → J4, getElem_cons_zero → J5, getElem_cons_succ → J6, getElem?_cons_zero → J7, getElem?_cons_succ → J8, getElem?_toArray → J9
open Go.Lib renaming cell_of_heap → Jc, frozen_of_heap → Jf, hid → Jh
open Go.AllReadyH renaming cons → Jd, nil → Je
open Go renaming wpAnyH_ready → Jr
open Go.RowKit.Below renaming heap_alloc → Jb
namespace Go.Proofs.YtockinpjfhhkoaaGreatDoor
open Go.RowKit
def toAt (ats : List (Int × Int)) (u : Int × Int) (j : Nat) : Int × Int:=ats.getD j u
theorem toAt_at {ats : List (Int × Int)} {u : Int × Int} {j : Nat} (h : j < ats.length) : toAt ats u j = ats[j]:=by
 unfold toAt
 rw [List.getD_eq_getElem?_getD,List.getElem?_eq_getElem h]; rfl
theorem toAt_end {ats : List (Int × Int)} {u : Int × Int} {j : Nat} (h : ¬ j < ats.length) : toAt ats u j = u:=by
 unfold toAt
 rw [List.getD_eq_getElem?_getD,List.getElem?_eq_none (by omega)]; rfl
theorem plus_step {α : Type} (shows : Int × Int → Int × Int → α → Bool) (u t : Int × Int) (ats : List (Int × Int)) (of : List α) (hl : of.length = ats.length + 1) (j : Nat) (hj : j < of.length) :
 z40 shows u t (ats.drop j) (of.drop j) = (z0f t (toAt ats u j) && shows t (toAt ats u j) of[j] && (if j + 1 < of.length then z40 shows u (toAt ats u j) (ats.drop (j + 1)) (of.drop (j + 1)) else true)):=by
 rw [List.drop_eq_getElem_cons hj]
 by_cases h : j < ats.length
 ·rw [toAt_at h,List.drop_eq_getElem_cons h,if_pos (by omega)]
  rfl
 ·have e1 : ats.drop j = []:=List.drop_eq_nil_of_le (by omega)
  have e2 : of.drop (j + 1) = []:=List.drop_eq_nil_of_le (by omega)
  rw [toAt_end h,e1,e2,if_neg (by omega),Bool.and_true]
  rfl
theorem wrap_len {n : Nat} (h : n ≤ 100000) : IntKind.i64.wrap ((n : Int) + 1) = (n : Int) + 1 ∧ wrap64 ((n : Int) + 1) = (n : Int) + 1:=⟨IntWalk.i64_in _ (by omega),IntWalk.wrap64_in _ (by omega)⟩
theorem Bt.set2' {pb : Nat} {w w' : World} (h : Bt pb w w') (x y : Value) : Bt pb w (set2 w' pb x y):=(h.set 0 x).set 1 y
theorem Bt.setNew2 {pb : Nat} {w w' : World} (h : Bt pb w w') {g : Nat} (hg : w.heap.size ≤ g) (x y : Value) : Bt pb w (set2 w' g x y):=(h.setNew hg 0 x).setNew hg 1 y
theorem meas' {j n : Nat} (h : j < n) : n - (intOf (.int .i64 ((j : Int) + 1))).toNat < n - (intOf (.int .i64 (j : Int))).toNat:=by
 show n - ((j : Int) + 1).toNat < n - (j : Int).toNat
 omega
theorem plus175_any {names : List ByteArray} {m : Nat} {nv : Value} {la : Option Addr} {lc : Nat} {l : List (Int × Int)} {d n : Nat} (ih : ShowsC names m nv la lc l d n) (k : Int) (l1 : Nat) (i : Spn) (x1 : XT m d) (a p b q wk sd : Int) (ats : List (Int × Int)) (of : List (PT n)) (l3 l4 : Nat) (hl3 : ats.length = l3) (hl4 : of.length = l4) (a1 a2 a3 a4 : Option Addr) (c1 c2 c3 c4 : Nat) (w : World)
 (he : EnvC names nv la lc l w) (hx : XRow w w.heap.size m d a2 [x1]) (r1 : allX z02 d x1 = true) (o1 : allX z11 d x1 = true) (hra : RatsRep w w.heap.size (.slice a3 l3 c3) ats) (his : ∀ s ∈ ats,in64 s.1) (hl100 : l3 ≤ 100000) (hp : PRow w w.heap.size n a4 of) (hk : ∀ y ∈ of,okT n y) (ht : mayP (a,p) = true) (hu : mayP (b,q) = true) (ia : in64 a) (ib : in64 b) :
 Calls Tryz.prog 175 #[.agg #[nv,.slice la l.length lc],.agg #[.int .u8 k,.slice a1 l1 c1,.slice a2 1 c2,.int .i64 i.low,.bool i.ls,.int .i64 i.high,.bool i.hs,.bool i.op],.agg #[.int .i64 a,.int .i64 p],.agg #[.int .i64 b,.int .i64 q],.agg #[.int .u8 wk,.int .u8 sd,.slice a3 l3 c3,.slice a4 l4 c4]] w fun e w' => e = .returned (.bool (sd == 0 && of.length == ats.length + 1 && z40 (fun t' u' y => z08 (z09 names m) l n (toX d x1) t' u' y) (b,q) (a,p) ats of)) ∧ Below w.heap.size w w':=by
 obtain ⟨WB,hWWB⟩ : ∃ WB,WB = ((((w.alloc (.cells #[nv,.slice la l.length lc] 107)).alloc (.cells #[.int .u8 k,.slice a1 l1 c1,.slice a2 1 c2,.int .i64 i.low,.bool i.ls,.int .i64 i.high,.bool i.hs,.bool i.op] 47)).alloc (.cells #[.int .i64 a,.int .i64 p] 50)).alloc (.cells #[.int .i64 b,.int .i64 q] 50)).alloc (.cells #[.int .u8 wk,.int .u8 sd,.slice a3 l3 c3,.slice a4 l4 c4] 56):=⟨_,rfl⟩
 have hbWB : Below w.heap.size w WB:=by rw [hWWB]; exact ((((z0c _ _).alloc (by simp <;> omega) _).alloc (by simp <;> omega) _).alloc (by simp <;> omega) _).alloc (by simp <;> omega) _
 have hx0 : WB.heap[w.heap.size]? = some (.cells #[nv,.slice la l.length lc] 107 (0,0)):=by rw [hWWB]; exact (Jb _ _ _ (by simp <;> omega)).trans ((Jb _ _ _ (by simp <;> omega)).trans ((Jb _ _ _ (by simp <;> omega)).trans ((Jb _ _ _ (by simp <;> omega)).trans (z03 rfl))))
 have hx1 : WB.heap[w.heap.size + 1]? = some (.cells #[.int .u8 k,.slice a1 l1 c1,.slice a2 1 c2,.int .i64 i.low,.bool i.ls,.int .i64 i.high,.bool i.hs,.bool i.op] 47 (0,0)):=by rw [hWWB]; exact (Jb _ _ _ (by simp <;> omega)).trans ((Jb _ _ _ (by simp <;> omega)).trans ((Jb _ _ _ (by simp <;> omega)).trans (z03 (by simp))))
 have hx2 : WB.heap[w.heap.size + 1 + 1]? = some (.cells #[.int .i64 a,.int .i64 p] 50 (0,0)):=by rw [hWWB]; exact (Jb _ _ _ (by simp <;> omega)).trans ((Jb _ _ _ (by simp <;> omega)).trans (z03 (by simp)))
 have hx3 : WB.heap[w.heap.size + 1 + 1 + 1]? = some (.cells #[.int .i64 b,.int .i64 q] 50 (0,0)):=by rw [hWWB]; exact (Jb _ _ _ (by simp <;> omega)).trans (z03 (by simp))
 have hx4 : WB.heap[w.heap.size + 1 + 1 + 1 + 1]? = some (.cells #[.int .u8 wk,.int .u8 sd,.slice a3 l3 c3,.slice a4 l4 c4] 56 (0,0)):=by rw [hWWB]; exact z03 (by simp)
 have HX : Hid (∀ W,Below WB.heap.size WB W → W.heap[w.heap.size]? = some (.cells #[nv,.slice la l.length lc] 107 (0,0)) ∧ W.heap[w.heap.size + 1]? = some (.cells #[.int .u8 k,.slice a1 l1 c1,.slice a2 1 c2,.int .i64 i.low,.bool i.ls,.int .i64 i.high,.bool i.hs,.bool i.op] 47 (0,0)) ∧ W.heap[w.heap.size + 1 + 1]? = some (.cells #[.int .i64 a,.int .i64 p] 50 (0,0)) ∧ W.heap[w.heap.size + 1 + 1 + 1]? = some (.cells #[.int .i64 b,.int .i64 q] 50 (0,0)) ∧ W.heap[w.heap.size + 1 + 1 + 1 + 1]? = some (.cells #[.int .u8 wk,.int .u8 sd,.slice a3 l3 c3,.slice a4 l4 c4] 56 (0,0))):=fun W hW => ⟨(hW.block _ (Array.getElem?_eq_some_iff.1 hx0).1).trans hx0,(hW.block _ (Array.getElem?_eq_some_iff.1 hx1).1).trans hx1,(hW.block _ (Array.getElem?_eq_some_iff.1 hx2).1).trans hx2,(hW.block _ (Array.getElem?_eq_some_iff.1 hx3).1).trans hx3,(hW.block _ (Array.getElem?_eq_some_iff.1 hx4).1).trans hx4⟩
 have HF : Hid (∀ W,Below WB.heap.size WB W → W.cell? ⟨w.heap.size,0,none⟩ = some (nv) ∧ W.cell? ⟨w.heap.size,1,none⟩ = some (.slice la l.length lc) ∧ W.cell? ⟨w.heap.size + 1,0,none⟩ = some (.int .u8 k) ∧ W.cell? ⟨w.heap.size + 1,1,none⟩ = some (.slice a1 l1 c1) ∧ W.cell? ⟨w.heap.size + 1,2,none⟩ = some (.slice a2 1 c2) ∧ W.cell? ⟨w.heap.size + 1,3,none⟩ = some (.int .i64 i.low) ∧ W.cell? ⟨w.heap.size + 1,4,none⟩ = some (.bool i.ls) ∧ W.cell? ⟨w.heap.size + 1,5,none⟩ = some (.int .i64 i.high) ∧ W.cell? ⟨w.heap.size + 1,6,none⟩ = some (.bool i.hs) ∧ W.cell? ⟨w.heap.size + 1,7,none⟩ = some (.bool i.op) ∧ W.cell? ⟨w.heap.size + 1 + 1,0,none⟩ = some (.int .i64 a) ∧ W.cell? ⟨w.heap.size + 1 + 1,1,none⟩ = some (.int .i64 p) ∧ W.cell? ⟨w.heap.size + 1 + 1 + 1,0,none⟩ = some (.int .i64 b) ∧ W.cell? ⟨w.heap.size + 1 + 1 + 1,1,none⟩ = some (.int .i64 q) ∧ W.cell? ⟨w.heap.size + 1 + 1 + 1 + 1,0,none⟩ = some (.int .u8 wk) ∧ W.cell? ⟨w.heap.size + 1 + 1 + 1 + 1,1,none⟩ = some (.int .u8 sd) ∧ W.cell? ⟨w.heap.size + 1 + 1 + 1 + 1,2,none⟩ = some (.slice a3 l3 c3) ∧ W.cell? ⟨w.heap.size + 1 + 1 + 1 + 1,3,none⟩ = some (.slice a4 l4 c4) ∧ w.heap.size < W.heap.size ∧ w.heap.size + 1 < W.heap.size ∧ w.heap.size + 1 + 1 < W.heap.size ∧ w.heap.size + 1 + 1 + 1 < W.heap.size ∧ w.heap.size + 1 + 1 + 1 + 1 < W.heap.size):=by
  intro W hW
  obtain ⟨k0,k1,k2,k3,k4⟩:=HX.out W hW
  exact ⟨Jc k0 0,Jc k0 1,Jc k1 0,Jc k1 1,Jc k1 2,Jc k1 3,Jc k1 4,Jc k1 5,Jc k1 6,Jc k1 7,Jc k2 0,Jc k2 1,Jc k3 0,Jc k3 1,Jc k4 0,Jc k4 1,Jc k4 2,Jc k4 3,(Array.getElem?_eq_some_iff.1 k0).1,(Array.getElem?_eq_some_iff.1 k1).1,(Array.getElem?_eq_some_iff.1 k2).1,(Array.getElem?_eq_some_iff.1 k3).1,(Array.getElem?_eq_some_iff.1 k4).1⟩
 have HBB:=Jh hbWB
 have HWB:=Jh hWWB.symm
 clear hWWB hbWB hx0 hx1 hx2 hx3 hx4
 have HBW : Hid (∀ W,Below WB.heap.size WB W → Below w.heap.size w W):=fun W h => HBB.out.trans (h.mono HBB.out.size)
 have HEN : Hid (∀ W,Below WB.heap.size WB W → EnvC names nv la lc l W):=fun W h => he.up (HBW.out W h)
 have HF4 : Hid (∀ W,Below WB.heap.size WB W → W.cell? ⟨w.heap.size + 1 + 1 + 1 + 1,1,none⟩ = some (.int .u8 sd) ∧ W.cell? ⟨w.heap.size + 1 + 1 + 1 + 1,2,none⟩ = some (.slice a3 l3 c3) ∧ W.cell? ⟨w.heap.size + 1 + 1 + 1 + 1,3,none⟩ = some (.slice a4 l4 c4) ∧ w.heap.size + 1 + 1 + 1 + 1 < W.heap.size):=by
  intro W hW
  have hq:=HBW.out W hW
  obtain ⟨k0,k1,k2,k3,k4⟩:=HX.out W hW
  exact ⟨Jc k4 1,Jc k4 2,Jc k4 3,(Array.getElem?_eq_some_iff.1 k4).1⟩
 obtain ⟨v1,v1'⟩:=wrap_len hl100
 by_cases hs0 : sd = 0
 rotate_left
 ·have d1 : (sd != 0) = true:=by simpa using hs0
  have d2 : (sd == 0) = false:=by simpa using hs0
  rw [d2]
  clear ih hx hp hk ht hu ia ib he HEN hl3 hl4 hs0 d2 hra his
  go_enter Tryz.func175,Tryz.ntmps175
  go_upto_region 1 with fail
  rw [HWB.out]
  clear HWB
  obtain ⟨z0,z1,z2,z3⟩:=HF4.out WB (Below.refl _ _)
  go_wp2_with fail
  all_goals go_ret
  all_goals exact ⟨rfl,HBB.out⟩
 have d1 : (sd != 0) = false:=by simpa using hs0
 by_cases h4 : l4 = l3 + 1
 rotate_left
 ·have d3 : ((l4 : Int) != (l3 : Int) + 1) = true:=by simp; omega
  have hno : (of.length == ats.length + 1) = false:=by simp; omega
  rw [hno,Bool.and_false,Bool.false_and]
  clear ih hx hp hk ht hu ia ib he HEN hl3 hl4 hs0 h4 hra his hno
  go_enter Tryz.func175,Tryz.ntmps175
  go_upto_region 1 with fail
  rw [HWB.out]
  clear HWB
  obtain ⟨z0,z1,z2,z3⟩:=HF4.out WB (Below.refl _ _)
  go_wp2_with fail
  all_goals go_ret
  all_goals exact ⟨rfl,HBB.out⟩
 have d3 : ((l4 : Int) != (l3 : Int) + 1) = false:=by simp; omega
 have hyes : (of.length == ats.length + 1) = true:=by simp; omega
 have d0 : (sd == 0) = true:=by simpa using hs0
 rw [hyes,d0,Bool.true_and,Bool.true_and]
 have hol : of.length = ats.length + 1:=by omega
 have HOL:=Jh hol
 have HL3:=Jh hl3
 have HL4:=Jh hl4
 have HH:=Jh hl100
 have HR:=Jh hra
 have HIS:=Jh his
 have HPW:=Jh hp
 have HKK:=Jh hk
 have HU:=Jh (And.intro hu (And.intro ia ib))
 have HT:=Jh ht
 have HIH:=Jh ih
 obtain ⟨x0b,x0o,x0k,x0a,x0l,x0c,x0d,x0m,x0e,x0g,x0h,x0i,x0j,x0p,hx0a,x0lt,x0f0,x0f1,x0f2,x0f3,x0f4,x0f5,x0f6,x0f7,hx0r⟩:=hx.at 0 (by simp)
 simp only [Nat.zero_mul,Nat.add_zero,J5] at x0f0 x0f1 x0f2 x0f3 x0f4 x0f5 x0f6 x0f7 hx0r
 subst hx0a
 have HX0:=Jh (And.intro hx0r (And.intro r1 o1))
 have HXF : Hid (∀ W,Below w.heap.size w W → W.cell? ⟨x0b,x0o,none⟩ = some (.int .u8 x0k) ∧ W.cell? ⟨x0b,x0o + 1,none⟩ = some (.slice x0a x0l x0c) ∧ W.cell? ⟨x0b,x0o + 2,none⟩ = some (.slice x0d x0m x0e) ∧ W.cell? ⟨x0b,x0o + 3,none⟩ = some (.int .i64 x0g) ∧ W.cell? ⟨x0b,x0o + 4,none⟩ = some (.bool x0h) ∧ W.cell? ⟨x0b,x0o + 5,none⟩ = some (.int .i64 x0i) ∧ W.cell? ⟨x0b,x0o + 6,none⟩ = some (.bool x0j) ∧ W.cell? ⟨x0b,x0o + 7,none⟩ = some (.bool x0p) ∧ x0b < W.heap.size):=fun W hq => ⟨(hq.cell (p:=⟨x0b,_,none⟩) x0lt).trans x0f0,(hq.cell (p:=⟨x0b,_,none⟩) x0lt).trans x0f1,(hq.cell (p:=⟨x0b,_,none⟩) x0lt).trans x0f2,(hq.cell (p:=⟨x0b,_,none⟩) x0lt).trans x0f3,(hq.cell (p:=⟨x0b,_,none⟩) x0lt).trans x0f4,(hq.cell (p:=⟨x0b,_,none⟩) x0lt).trans x0f5,(hq.cell (p:=⟨x0b,_,none⟩) x0lt).trans x0f6,(hq.cell (p:=⟨x0b,_,none⟩) x0lt).trans x0f7,Nat.lt_of_lt_of_le x0lt hq.size⟩
 obtain ⟨PS,hPS⟩ : ∃ P,z40 (fun t' u' y => z08 (z09 names m) l n (toX d x1) t' u' y) (b,q) (a,p) ats of = P:=⟨_,rfl⟩
 have HPS : Hid (PS = if 0 < of.length then z40 (fun t' u' y => z08 (z09 names m) l n (toX d x1) t' u' y) (b,q) (a,p) (ats.drop 0) (of.drop 0) else true):=by rw [Hid,if_pos (by omega),← hPS]; rfl
 have HTS : Hid (w.heap.size + 1 + 1 < WB.heap.size):=(Array.getElem?_eq_some_iff.1 (HX.out WB (Below.refl _ _)).2.2.1).1
 -- what is there in whatever world in which all but the first time's block is as it was
 have HXB : Hid (∀ W,Bt (w.heap.size + 1 + 1) WB W → W.heap[w.heap.size]? = some (.cells #[nv,.slice la l.length lc] 107 (0,0)) ∧ W.heap[w.heap.size + 1]? = some (.cells #[.int .u8 k,.slice a1 l1 c1,.slice (some ⟨x0b,x0o,none⟩) 1 c2,.int .i64 i.low,.bool i.ls,.int .i64 i.high,.bool i.hs,.bool i.op] 47 (0,0)) ∧ W.heap[w.heap.size + 1 + 1 + 1]? = some (.cells #[.int .i64 b,.int .i64 q] 50 (0,0)) ∧ W.heap[w.heap.size + 1 + 1 + 1 + 1]? = some (.cells #[.int .u8 wk,.int .u8 sd,.slice a3 l3 c3,.slice a4 l4 c4] 56 (0,0)) ∧ Below w.heap.size w W):=by
  intro W hW
  obtain ⟨k0,k1,_,k3,k4⟩:=HX.out WB (Below.refl _ _)
  exact ⟨hW.at k0 (by omega),hW.at k1 (by omega),hW.at k3 (by omega),hW.at k4 (by omega),HBB.out.trans (hW.below (by omega) HBB.out.size)⟩
 have HTB : Hid (WB.heap[w.heap.size + 1 + 1]? = some (.cells #[.int .i64 a,.int .i64 p] 50 (0,0))):=(HX.out WB (Below.refl _ _)).2.2.1
 have HEN4 : Hid (∀ W,Below w.heap.size w W → EnvC names nv la lc l W):=fun W h => he.up h
 rw [hPS]
 clear ih hx hp hk ht hu ia ib he HEN hl3 hl4 hs0 h4 hra his hyes d0 hol hl100 hPS HX HF x0f0 x0f1 x0f2 x0f3 x0f4 x0f5 x0f6 x0f7 x0lt
 go_enter Tryz.func175,Tryz.ntmps175
 go_upto_region 1 with fail
 rw [HWB.out]
 clear HWB
 obtain ⟨z0,z1,z2,z3⟩:=HF4.out WB (Below.refl _ _)
 go_wp2_with fail
 go_loopw [30] (fun iv wr => ∃ j : Nat,j ≤ of.length ∧ iv = .int .i64 j ∧ Hid (Bt (w.heap.size + 1 + 1) WB wr) ∧ Hid (∃ s sq,wr.heap[w.heap.size + 1 + 1]? = some (.cells #[.int .i64 s,.int .i64 sq] 50 (0,0)) ∧ mayP (s,sq) = true ∧ in64 s ∧ PS = if j < of.length then z40 (fun t' u' y => z08 (z09 names m) l n (toX d x1) t' u' y) (b,q) (s,sq) (ats.drop j) (of.drop j) else true)) (fun iv _ => of.length - (intOf iv).toNat)
 case atStart => exact ⟨0,Nat.zero_le _,rfl,Bt.refl _ _,a,p,HTB.out,HT.out,HU.out.2.1,HPS.out⟩
 case round =>
  clear z0 z1 z2 z3 HF4 HPS
  obtain ⟨j,hj,rfl,HBT,HCU⟩:=hrel
  obtain ⟨s,sq,hcu,hms,his,hps⟩:=HCU.out
  clear HCU
  by_cases hlt : j < of.length
  ·rw [if_pos hlt,plus_step _ _ _ _ _ HOL.out j hlt] at hps
   obtain ⟨hc0,hc1,hc3,hc4,cbw⟩:=HXB.out wr HBT.out
   obtain ⟨yb,yo,yk,ys,ya,yl,yc,yd,ym,ye,hya,ylt,yf0,yf1,yf2,yf3,hyr⟩:=HPW.out.at j hlt
   subst hya
   have yf0:=(cbw.cell (p:=⟨yb,_,none⟩) ylt).trans yf0
   have yf1:=(cbw.cell (p:=⟨yb,_,none⟩) ylt).trans yf1
   have yf2:=(cbw.cell (p:=⟨yb,_,none⟩) ylt).trans yf2
   have yf3:=(cbw.cell (p:=⟨yb,_,none⟩) ylt).trans yf3
   obtain ⟨y,hy⟩ : ∃ y,of[j] = y:=⟨_,rfl⟩
   have HYRW : Hid (PRep w w.heap.size n y (.agg #[.int .u8 yk,.int .u8 ys,.slice ya yl yc,.slice yd ym ye])):=by rw [Hid,← hy]; exact hyr
   have hky : okT n y:=by rw [← hy]; exact HKK.out _ (List.getElem_mem hlt)
   obtain ⟨⟨e,eq⟩,hto⟩ : ∃ e,toAt ats (b,q) j = e:=⟨_,rfl⟩
   clear hyr
   rw [hy,hto] at hps
   have hie : in64 e:=by
    by_cases h : j < ats.length
    ·rw [toAt_at h] at hto
     have:=HIS.out _ (List.getElem_mem h)
     rw [hto] at this; exact this
    ·rw [toAt_end h] at hto
     injection hto with h1 h2
     rw [← h1]; exact HU.out.2.2
   have HIE:=Jh hie
   have HKY:=Jh hky
   have HLT:=Jh hlt
   have HMS:=Jh (And.intro hms his)
   have hjl : j < l4:=by rw [← HL4.out]; exact hlt
   have hji : (j : Int) < (l4 : Int):=by omega
   have hj0 : (0 : Int) ≤ (j : Int):=by omega
   have HW1 : Hid (j ≤ 100000):=by have h1:=HL3.out; have h2:=HH.out; have h3:=HOL.out; rw [Hid]; omega
   obtain ⟨u1,u1'⟩:=wrap_len HW1.out
   have HL1:=fun W => Jh (z16 s sq e eq W his hie)
   -- the world behind the copies
   have hz5 : wr.heap.size < wr.heap.size + 1:=Nat.lt_succ_self _
   obtain ⟨W5,hW5⟩ : ∃ W5,W5 = (wr.alloc (.cells #[.int .u8 yk,.int .u8 ys,.slice ya yl yc,.slice yd ym ye] 56)).alloc (.cells #[.int .i64 b,.int .i64 q] 50):=⟨_,rfl⟩
   have hb5 : Below wr.heap.size wr W5:=by rw [hW5]; exact (z0c _ _).alloc (by simp) _
   have hx5 : W5.heap[wr.heap.size]? = some (.cells #[.int .u8 yk,.int .u8 ys,.slice ya yl yc,.slice yd ym ye] 56 (0,0)):=by rw [hW5]; exact (Jb _ _ _ (by simp)).trans (z03 rfl)
   have hx6 : W5.heap[wr.heap.size + 1]? = some (.cells #[.int .i64 b,.int .i64 q] 50 (0,0)):=by rw [hW5]; exact z03 (by simp)
   have HW5:=Jh hW5.symm
   clear hW5
   have m1 : wr.cell? ⟨w.heap.size + 1 + 1 + 1,0,none⟩ = some (.int .i64 b):=Jc hc3 0
   have m2 : wr.cell? ⟨w.heap.size + 1 + 1 + 1,1,none⟩ = some (.int .i64 q):=Jc hc3 1
   have m3 : wr.cell? ⟨w.heap.size + 1 + 1 + 1 + 1,2,none⟩ = some (.slice a3 l3 c3):=Jc hc4 2
   have m4:=(Array.getElem?_eq_some_iff.1 hc3).1
   have m5:=(Array.getElem?_eq_some_iff.1 hc4).1
   have ylt2 : yb < wr.heap.size:=Nat.lt_of_lt_of_le ylt cbw.size
   have HPS:=Jh hps
   obtain ⟨k0,k1,k3,k4,kw⟩:=HXB.out W5 (HBT.out.trans (.of_below hb5))
   have n3 : W5.cell? ⟨w.heap.size + 1 + 1 + 1 + 1,2,none⟩ = some (.slice a3 l3 c3):=Jc k4 2
   have n5:=(Array.getElem?_eq_some_iff.1 k4).1
   have nt:=(hb5.block _ (Array.getElem?_eq_some_iff.1 hcu).1).trans hcu
   have nb : Bt (w.heap.size + 1 + 1) WB W5:=HBT.out.trans (.of_below hb5)
   go_upto_region 7 with fail
   rw [HW5.out]
   clear HW5 m1 m2 m3 m4 m5 ylt2 yf0 yf1 yf2 yf3 hc0 hc1 hc3 hc4 cbw
   by_cases h3 : j < l3
   ·have d7 : decide ((j : Int) < (l3 : Int)) = true:=by simp; exact h3
    have hja : j < ats.length:=by rw [HL3.out]; exact h3
    obtain ⟨rb,ro,hra2,rlt,rf0,rf1⟩:=rats_at HR.out j hja
    subst hra2
    rw [toAt_at hja] at hto
    rw [hto] at rf0 rf1
    dsimp only at rf0 rf1
    have q0:=(kw.cell (p:=⟨rb,_,none⟩) rlt).trans rf0
    have q1:=(kw.cell (p:=⟨rb,_,none⟩) rlt).trans rf1
    have ql : rb < W5.heap.size:=Nat.lt_of_lt_of_le rlt kw.size
    have p0 : W5.cell? ⟨wr.heap.size + 1,0,none⟩ = some (.int .i64 b):=Jc hx6 0
    have p1 : W5.cell? ⟨wr.heap.size + 1,1,none⟩ = some (.int .i64 q):=Jc hx6 1
    have p2:=Jf hx6 0
    have p3:=Jf hx6 1
    have p4:=(Array.getElem?_eq_some_iff.1 hx6).1
    have hl3i : (j : Int) < (l3 : Int):=by omega
    obtain ⟨W8,hW8⟩ : ∃ W8,W8 = set2 W5 (wr.heap.size + 1) (.int .i64 e) (.int .i64 eq):=⟨_,rfl⟩
    have g0 : W8.heap[wr.heap.size]? = some (.cells #[.int .u8 yk,.int .u8 ys,.slice ya yl yc,.slice yd ym ye] 56 (0,0)):=by rw [hW8]; exact (z3i _ _ _ _ _ (by omega)).trans hx5
    have g1 : W8.heap[wr.heap.size + 1]? = some (.cells #[.int .i64 e,.int .i64 eq] 50 (0,0)):=by rw [hW8]; exact z57 hx6 _ _
    have g2 : W8.heap[w.heap.size + 1 + 1]? = some (.cells #[.int .i64 s,.int .i64 sq] 50 (0,0)):=by
     rw [hW8]; exact (z3i _ _ _ _ _ (by have:=(Array.getElem?_eq_some_iff.1 hcu).1; omega)).trans nt
    have g3 : Bt (w.heap.size + 1 + 1) WB W8:=by rw [hW8]; exact nb.setNew2 (by have:=HBT.out.2.2.2.1; omega) _ _
    unfold set2 at hW8
    have HW8:=Jh hW8.symm
    clear hW8 hx5 hx6 nt nb hcu hto rlt rf0 rf1 k0 k1 k3 k4 kw hb5 hja
    go_upto_region 9 with fail
    rw [HW8.out]
    clear HW8 p0 p1 p2 p3 p4 q0 q1 ql n3 n5
    have HX8 : Hid (∀ W,Below W8.heap.size W8 W → W.heap[wr.heap.size]? = some (.cells #[.int .u8 yk,.int .u8 ys,.slice ya yl yc,.slice yd ym ye] 56 (0,0)) ∧ W.heap[wr.heap.size + 1]? = some (.cells #[.int .i64 e,.int .i64 eq] 50 (0,0)) ∧ W.heap[w.heap.size + 1 + 1]? = some (.cells #[.int .i64 s,.int .i64 sq] 50 (0,0)) ∧ Bt (w.heap.size + 1 + 1) WB W):=fun W hW =>
     ⟨(hW.block _ (Array.getElem?_eq_some_iff.1 g0).1).trans g0,(hW.block _ (Array.getElem?_eq_some_iff.1 g1).1).trans g1,(hW.block _ (Array.getElem?_eq_some_iff.1 g2).1).trans g2,g3.trans (.of_below hW)⟩
    have HF9 : Hid (∀ W,Below W8.heap.size W8 W → W.cell? ⟨w.heap.size,0,none⟩ = some nv ∧ W.cell? ⟨w.heap.size,1,none⟩ = some (.slice la l.length lc) ∧ w.heap.size < W.heap.size ∧ W.cell? ⟨w.heap.size + 1,2,none⟩ = some (.slice (some ⟨x0b,x0o,none⟩) 1 c2) ∧ w.heap.size + 1 < W.heap.size ∧ W.cell? ⟨w.heap.size + 1 + 1,0,none⟩ = some (.int .i64 s) ∧ W.cell? ⟨w.heap.size + 1 + 1,1,none⟩ = some (.int .i64 sq) ∧ w.heap.size + 1 + 1 < W.heap.size ∧ W.cell? ⟨wr.heap.size + 1,0,none⟩ = some (.int .i64 e) ∧ W.cell? ⟨wr.heap.size + 1,1,none⟩ = some (.int .i64 eq) ∧ wr.heap.size + 1 < W.heap.size ∧ W.cell? ⟨wr.heap.size,0,none⟩ = some (.int .u8 yk) ∧ W.cell? ⟨wr.heap.size,1,none⟩ = some (.int .u8 ys) ∧ W.cell? ⟨wr.heap.size,2,none⟩ = some (.slice ya yl yc) ∧ W.cell? ⟨wr.heap.size,3,none⟩ = some (.slice yd ym ye) ∧ wr.heap.size < W.heap.size ∧ W.cell? ⟨x0b,x0o,none⟩ = some (.int .u8 x0k) ∧ W.cell? ⟨x0b,x0o + 1,none⟩ = some (.slice x0a x0l x0c) ∧ W.cell? ⟨x0b,x0o + 2,none⟩ = some (.slice x0d x0m x0e) ∧ W.cell? ⟨x0b,x0o + 3,none⟩ = some (.int .i64 x0g) ∧ W.cell? ⟨x0b,x0o + 4,none⟩ = some (.bool x0h) ∧ W.cell? ⟨x0b,x0o + 5,none⟩ = some (.int .i64 x0i) ∧ W.cell? ⟨x0b,x0o + 6,none⟩ = some (.bool x0j) ∧ W.cell? ⟨x0b,x0o + 7,none⟩ = some (.bool x0p) ∧ x0b < W.heap.size):=by
     intro W hW
     obtain ⟨ky,ke,kt,kb⟩:=HX8.out W hW
     obtain ⟨k0,k1,_,_,kw⟩:=HXB.out W kb
     obtain ⟨q0,q1,q2,q3,q4,q5,q6,q7,q8⟩:=HXF.out W kw
     exact ⟨Jc k0 0,Jc k0 1,(Array.getElem?_eq_some_iff.1 k0).1,Jc k1 2,(Array.getElem?_eq_some_iff.1 k1).1,Jc kt 0,Jc kt 1,(Array.getElem?_eq_some_iff.1 kt).1,Jc ke 0,Jc ke 1,(Array.getElem?_eq_some_iff.1 ke).1,Jc ky 0,Jc ky 1,Jc ky 2,Jc ky 3,(Array.getElem?_eq_some_iff.1 ky).1,q0,q1,q2,q3,q4,q5,q6,q7,q8⟩
    have HSH : Hid (z0f (s,sq) (e,eq) = true → ∀ W,Below W8.heap.size W8 W → Calls Tryz.prog 53 #[.agg #[nv,.slice la l.length lc],.agg #[.int .u8 x0k,.slice x0a x0l x0c,.slice x0d x0m x0e,.int .i64 x0g,.bool x0h,.int .i64 x0i,.bool x0j,.bool x0p],.agg #[.int .i64 s,.int .i64 sq],.agg #[.int .i64 e,.int .i64 eq],.agg #[.int .u8 yk,.int .u8 ys,.slice ya yl yc,.slice yd ym ye]] W fun e' w' => e' = .returned (.bool (z08 (z09 names m) l n (toX d x1) (s,sq) (e,eq) y)) ∧ Below W.heap.size W w'):=by
     intro hl W hW
     have kw:=(HXB.out W (HX8.out W hW).2.2.2).2.2.2.2
     exact HIH.out _ _ _ _ _ _ _ _ W (HEN4.out W kw) (HX0.out.1.up kw kw.size) HX0.out.2.1 HX0.out.2.2 (PRep.up kw kw.size HYRW.out) HKY.out HMS.out.1 (z4i hl).2 HMS.out.2 HIE.out
    clear g0 g1 g2 g3
    cases hL1 : z0f (s,sq) (e,eq) with
    | false =>
     have hpf : Hid (PS = false):=by rw [Hid,HPS.out,hL1]; rfl
     rw [hL1] at HL1
     clear hL1 HSH
     refine wrd (by kernel_rfl) HF9.out ((Below.refl W8.heap.size W8).drew) (fun hHeld => ?_)
     refine z00 (f:=14) (by kernel_rfl) (by assumption) [(0,true),(1,true)] rfl (by kernel_rfl) ?_
     repeat (refine SeqH.take (v:=?_) rfl (fun _ _ _ h => h) (by kernel_rfl) ?_ ?_; rotate_left; (· (intro w hSw; (try dsimp only at hSw); go_simp) <;> with_reducible rfl); (try simp only [Act.put,J1,J2,J3,J4,J5,J6]))
     refine SeqH.nil ?_
     refine Jr (rs:=[2]) (by kernel_rfl) (by simp) ?_
     refine Jd rfl (fun K hK => ?_) Je
     go_simp
     go_at_call 217
     refine ((HL1 _).out).mono ?_
     rintro e wc ⟨rfl,hbc⟩
     have HBc : Hid (Below W8.heap.size W8 wc):=belS ((Below.refl W8.heap.size W8).drew) hbc
     clear hbc
     try dsimp only
     refine hK.out _ _ (HF9.out _ HBc.out) (fun hHeld => ?_)
     clear hK K
     try simp only [Act.put,J1,J2,J3,J4,J5,J6]
     refine z00 (f:=0) (by kernel_rfl) (by assumption) [(3,true),(4,true),(5,false),(6,false),(7,false),(8,false),(9,false),(10,false),(11,false),(12,false),(13,false),(14,false),(15,true)] rfl (by kernel_rfl) ?_
     repeat (first | (refine SeqH.skip rfl (fun _ _ _ h => h) (by kernel_rfl) ?_; (try simp only [Act.put,J1,J2,J3,J4,J5,J6])) | (refine SeqH.take (v:=?_) rfl (fun _ _ _ h => h) (by kernel_rfl) ?_ ?_; rotate_left; (· (intro w hSw; (try dsimp only at hSw); go_simp) <;> with_reducible rfl); (try simp only [Act.put,J1,J2,J3,J4,J5,J6])))
     refine SeqH.nil ?_
     refine wpAnyH_done (by kernel_rfl) ?_ _
     clear hHeld
     go_wp2_with fail
     all_goals go_ret
     all_goals exact ⟨by rw [hpf.out]; rfl,(HXB.out _ (HX8.out _ HBc.out).2.2.2).2.2.2.2⟩
    | true =>
     have HS2:=Jh (HSH.out hL1)
     have hme:=(z4i hL1).2
     rw [hL1] at HL1
     have hps2 : PS = (z08 (z09 names m) l n (toX d x1) (s,sq) (e,eq) y && (if j + 1 < of.length then z40 (fun t' u' y => z08 (z09 names m) l n (toX d x1) t' u' y) (b,q) (e,eq) (ats.drop (j + 1)) (of.drop (j + 1)) else true)):=by rw [HPS.out,hL1,Bool.true_and]
     have HME:=Jh hme
     obtain ⟨R,hR⟩ : ∃ R,z08 (z09 names m) l n (toX d x1) (s,sq) (e,eq) y = R:=⟨_,rfl⟩
     rw [hR] at HS2 hps2
     clear hL1 HSH hme hR
     cases R with
     | false =>
      have hpf : Hid (PS = false):=by rw [Hid,hps2]; rfl
      clear hps2
      refine wrd (by kernel_rfl) HF9.out ((Below.refl W8.heap.size W8).drew) (fun hHeld => ?_)
      refine z00 (f:=14) (by kernel_rfl) (by assumption) [(0,true),(1,true)] rfl (by kernel_rfl) ?_
      repeat (refine SeqH.take (v:=?_) rfl (fun _ _ _ h => h) (by kernel_rfl) ?_ ?_; rotate_left; (· (intro w hSw; (try dsimp only at hSw); go_simp) <;> with_reducible rfl); (try simp only [Act.put,J1,J2,J3,J4,J5,J6]))
      refine SeqH.nil ?_
      refine Jr (rs:=[2]) (by kernel_rfl) (by simp) ?_
      refine Jd rfl (fun K hK => ?_) Je
      go_simp
      go_at_call 217
      refine ((HL1 _).out).mono ?_
      rintro e wc ⟨rfl,hbc⟩
      have HBc : Hid (Below W8.heap.size W8 wc):=belS ((Below.refl W8.heap.size W8).drew) hbc
      clear hbc
      try dsimp only
      refine hK.out _ _ (HF9.out _ HBc.out) (fun hHeld => ?_)
      clear hK K
      try simp only [Act.put,J1,J2,J3,J4,J5,J6]
      refine z00 (f:=3) (by kernel_rfl) (by assumption) [(3,true),(4,true),(5,true),(6,true),(7,true),(8,true),(9,true),(10,true),(11,true),(12,true)] rfl (by kernel_rfl) ?_
      repeat (refine SeqH.take (v:=?_) rfl (fun _ _ _ h => h) (by kernel_rfl) ?_ ?_; rotate_left; (· (intro w hSw; (try dsimp only at hSw); go_simp) <;> with_reducible rfl); (try simp only [Act.put,J1,J2,J3,J4,J5,J6]))
      refine SeqH.nil ?_
      refine Jr (rs:=[13]) (by kernel_rfl) (by simp) ?_
      refine Jd rfl (fun K hK => ?_) Je
      go_simp
      go_at_call 53
      refine (HS2.out _ HBc.out).mono ?_
      rintro e wd ⟨rfl,hbd⟩
      have HBd : Hid (Below W8.heap.size W8 wd):=belS (HBc.out) hbd
      clear hbd
      try dsimp only
      refine hK.out _ _ (HF9.out _ HBd.out) (fun hHeld => ?_)
      clear hK K
      try simp only [Act.put,J1,J2,J3,J4,J5,J6]
      refine z00 (f:=0) (by kernel_rfl) (by assumption) [(14,true),(15,true)] rfl (by kernel_rfl) ?_
      repeat (refine SeqH.take (v:=?_) rfl (fun _ _ _ h => h) (by kernel_rfl) ?_ ?_; rotate_left; (· (intro w hSw; (try dsimp only at hSw); go_simp) <;> with_reducible rfl); (try simp only [Act.put,J1,J2,J3,J4,J5,J6]))
      refine SeqH.nil ?_
      refine wpAnyH_done (by kernel_rfl) ?_ _
      clear hHeld
      go_wp2_with fail
      all_goals go_ret
      all_goals exact ⟨by rw [hpf.out]; rfl,(HXB.out _ (HX8.out _ HBd.out).2.2.2).2.2.2.2⟩
     | true =>
      rw [Bool.true_and] at hps2
      have HPS2:=Jh hps2
      clear hps2
      refine wrd (by kernel_rfl) HF9.out ((Below.refl W8.heap.size W8).drew) (fun hHeld => ?_)
      refine z00 (f:=14) (by kernel_rfl) (by assumption) [(0,true),(1,true)] rfl (by kernel_rfl) ?_
      repeat (refine SeqH.take (v:=?_) rfl (fun _ _ _ h => h) (by kernel_rfl) ?_ ?_; rotate_left; (· (intro w hSw; (try dsimp only at hSw); go_simp) <;> with_reducible rfl); (try simp only [Act.put,J1,J2,J3,J4,J5,J6]))
      refine SeqH.nil ?_
      refine Jr (rs:=[2]) (by kernel_rfl) (by simp) ?_
      refine Jd rfl (fun K hK => ?_) Je
      go_simp
      go_at_call 217
      refine ((HL1 _).out).mono ?_
      rintro e wc ⟨rfl,hbc⟩
      have HBc : Hid (Below W8.heap.size W8 wc):=belS ((Below.refl W8.heap.size W8).drew) hbc
      clear hbc
      try dsimp only
      refine hK.out _ _ (HF9.out _ HBc.out) (fun hHeld => ?_)
      clear hK K
      try simp only [Act.put,J1,J2,J3,J4,J5,J6]
      refine z00 (f:=3) (by kernel_rfl) (by assumption) [(3,true),(4,true),(5,true),(6,true),(7,true),(8,true),(9,true),(10,true),(11,true),(12,true)] rfl (by kernel_rfl) ?_
      repeat (refine SeqH.take (v:=?_) rfl (fun _ _ _ h => h) (by kernel_rfl) ?_ ?_; rotate_left; (· (intro w hSw; (try dsimp only at hSw); go_simp) <;> with_reducible rfl); (try simp only [Act.put,J1,J2,J3,J4,J5,J6]))
      refine SeqH.nil ?_
      refine Jr (rs:=[13]) (by kernel_rfl) (by simp) ?_
      refine Jd rfl (fun K hK => ?_) Je
      go_simp
      go_at_call 53
      refine (HS2.out _ HBc.out).mono ?_
      rintro e wd ⟨rfl,hbd⟩
      have HBd : Hid (Below W8.heap.size W8 wd):=belS (HBc.out) hbd
      clear hbd
      try dsimp only
      refine hK.out _ _ (HF9.out _ HBd.out) (fun hHeld => ?_)
      clear hK K
      try simp only [Act.put,J1,J2,J3,J4,J5,J6]
      refine z00 (f:=0) (by kernel_rfl) (by assumption) [(14,true),(15,true)] rfl (by kernel_rfl) ?_
      repeat (refine SeqH.take (v:=?_) rfl (fun _ _ _ h => h) (by kernel_rfl) ?_ ?_; rotate_left; (· (intro w hSw; (try dsimp only at hSw); go_simp) <;> with_reducible rfl); (try simp only [Act.put,J1,J2,J3,J4,J5,J6]))
      refine SeqH.nil ?_
      refine wpAnyH_done (by kernel_rfl) ?_ _
      clear hHeld
      obtain ⟨ky,ke,kt,kb⟩:=HX8.out wd HBd.out
      have f0:=Jc ke 0
      have f1:=Jc ke 1
      have f2:=(Array.getElem?_eq_some_iff.1 ke).1
      have f3:=Jc kt 0
      have f4:=Jc kt 1
      have f5:=Jf kt 0
      have f6:=Jf kt 1
      have f7:=(Array.getElem?_eq_some_iff.1 kt).1
      simp only [J9,J7,J8] at f0 f1 f3 f4
      have HKT:=Jh kt
      have HKB:=Jh kb
      clear ky ke kt kb
      go_wp2_with fail
      have HN1 : Hid (Bt (w.heap.size + 1 + 1) WB (set2 wd (w.heap.size + 1 + 1) (.int .i64 e) (.int .i64 eq))):=HKB.out.set2' _ _
      have HN2 : Hid (∃ s sq,(set2 wd (w.heap.size + 1 + 1) (.int .i64 e) (.int .i64 eq)).heap[w.heap.size + 1 + 1]? = some (.cells #[.int .i64 s,.int .i64 sq] 50 (0,0)) ∧ mayP (s,sq) = true ∧ in64 s ∧ PS = if j + 1 < of.length then z40 (fun t' u' y => z08 (z09 names m) l n (toX d x1) t' u' y) (b,q) (s,sq) (ats.drop (j + 1)) (of.drop (j + 1)) else true):=⟨e,eq,z57 HKT.out _ _,HME.out,HIE.out,HPS2.out⟩
      first | exact ⟨⟨j + 1,HLT.out,rfl,HN1,HN2⟩,meas' HLT.out⟩ | (go_roundw; (case rel => exact ⟨j + 1,HLT.out,rfl,HN1,HN2⟩); (case measure => exact meas' HLT.out))
   ·have d7 : decide ((j : Int) < (l3 : Int)) = false:=by simp; omega
    have hja : ¬ j < ats.length:=by rw [HL3.out]; exact h3
    rw [toAt_end hja] at hto
    injection hto with ht1 ht2
    subst ht1 ht2
    obtain ⟨W8,hW8⟩ : ∃ W8,W8 = W5:=⟨_,rfl⟩
    subst hW8
    have g0:=hx5
    have g1:=hx6
    have g2:=nt
    have g3:=nb
    clear hx5 hx6 nt nb hcu k0 k1 k3 k4 kw hb5 hja
    go_upto_region 9 with fail
    clear n3 n5
    have HX8 : Hid (∀ W,Below W8.heap.size W8 W → W.heap[wr.heap.size]? = some (.cells #[.int .u8 yk,.int .u8 ys,.slice ya yl yc,.slice yd ym ye] 56 (0,0)) ∧ W.heap[wr.heap.size + 1]? = some (.cells #[.int .i64 b,.int .i64 q] 50 (0,0)) ∧ W.heap[w.heap.size + 1 + 1]? = some (.cells #[.int .i64 s,.int .i64 sq] 50 (0,0)) ∧ Bt (w.heap.size + 1 + 1) WB W):=fun W hW =>
     ⟨(hW.block _ (Array.getElem?_eq_some_iff.1 g0).1).trans g0,(hW.block _ (Array.getElem?_eq_some_iff.1 g1).1).trans g1,(hW.block _ (Array.getElem?_eq_some_iff.1 g2).1).trans g2,g3.trans (.of_below hW)⟩
    have HF9 : Hid (∀ W,Below W8.heap.size W8 W → W.cell? ⟨w.heap.size,0,none⟩ = some nv ∧ W.cell? ⟨w.heap.size,1,none⟩ = some (.slice la l.length lc) ∧ w.heap.size < W.heap.size ∧ W.cell? ⟨w.heap.size + 1,2,none⟩ = some (.slice (some ⟨x0b,x0o,none⟩) 1 c2) ∧ w.heap.size + 1 < W.heap.size ∧ W.cell? ⟨w.heap.size + 1 + 1,0,none⟩ = some (.int .i64 s) ∧ W.cell? ⟨w.heap.size + 1 + 1,1,none⟩ = some (.int .i64 sq) ∧ w.heap.size + 1 + 1 < W.heap.size ∧ W.cell? ⟨wr.heap.size + 1,0,none⟩ = some (.int .i64 b) ∧ W.cell? ⟨wr.heap.size + 1,1,none⟩ = some (.int .i64 q) ∧ wr.heap.size + 1 < W.heap.size ∧ W.cell? ⟨wr.heap.size,0,none⟩ = some (.int .u8 yk) ∧ W.cell? ⟨wr.heap.size,1,none⟩ = some (.int .u8 ys) ∧ W.cell? ⟨wr.heap.size,2,none⟩ = some (.slice ya yl yc) ∧ W.cell? ⟨wr.heap.size,3,none⟩ = some (.slice yd ym ye) ∧ wr.heap.size < W.heap.size ∧ W.cell? ⟨x0b,x0o,none⟩ = some (.int .u8 x0k) ∧ W.cell? ⟨x0b,x0o + 1,none⟩ = some (.slice x0a x0l x0c) ∧ W.cell? ⟨x0b,x0o + 2,none⟩ = some (.slice x0d x0m x0e) ∧ W.cell? ⟨x0b,x0o + 3,none⟩ = some (.int .i64 x0g) ∧ W.cell? ⟨x0b,x0o + 4,none⟩ = some (.bool x0h) ∧ W.cell? ⟨x0b,x0o + 5,none⟩ = some (.int .i64 x0i) ∧ W.cell? ⟨x0b,x0o + 6,none⟩ = some (.bool x0j) ∧ W.cell? ⟨x0b,x0o + 7,none⟩ = some (.bool x0p) ∧ x0b < W.heap.size):=by
     intro W hW
     obtain ⟨ky,ke,kt,kb⟩:=HX8.out W hW
     obtain ⟨k0,k1,_,_,kw⟩:=HXB.out W kb
     obtain ⟨q0,q1,q2,q3,q4,q5,q6,q7,q8⟩:=HXF.out W kw
     exact ⟨Jc k0 0,Jc k0 1,(Array.getElem?_eq_some_iff.1 k0).1,Jc k1 2,(Array.getElem?_eq_some_iff.1 k1).1,Jc kt 0,Jc kt 1,(Array.getElem?_eq_some_iff.1 kt).1,Jc ke 0,Jc ke 1,(Array.getElem?_eq_some_iff.1 ke).1,Jc ky 0,Jc ky 1,Jc ky 2,Jc ky 3,(Array.getElem?_eq_some_iff.1 ky).1,q0,q1,q2,q3,q4,q5,q6,q7,q8⟩
    have HSH : Hid (z0f (s,sq) (b,q) = true → ∀ W,Below W8.heap.size W8 W → Calls Tryz.prog 53 #[.agg #[nv,.slice la l.length lc],.agg #[.int .u8 x0k,.slice x0a x0l x0c,.slice x0d x0m x0e,.int .i64 x0g,.bool x0h,.int .i64 x0i,.bool x0j,.bool x0p],.agg #[.int .i64 s,.int .i64 sq],.agg #[.int .i64 b,.int .i64 q],.agg #[.int .u8 yk,.int .u8 ys,.slice ya yl yc,.slice yd ym ye]] W fun e' w' => e' = .returned (.bool (z08 (z09 names m) l n (toX d x1) (s,sq) (b,q) y)) ∧ Below W.heap.size W w'):=by
     intro hl W hW
     have kw:=(HXB.out W (HX8.out W hW).2.2.2).2.2.2.2
     exact HIH.out _ _ _ _ _ _ _ _ W (HEN4.out W kw) (HX0.out.1.up kw kw.size) HX0.out.2.1 HX0.out.2.2 (PRep.up kw kw.size HYRW.out) HKY.out HMS.out.1 (z4i hl).2 HMS.out.2 HIE.out
    clear g0 g1 g2 g3
    cases hL1 : z0f (s,sq) (b,q) with
    | false =>
     have hpf : Hid (PS = false):=by rw [Hid,HPS.out,hL1]; rfl
     rw [hL1] at HL1
     clear hL1 HSH
     refine wrd (by kernel_rfl) HF9.out ((Below.refl W8.heap.size W8).drew) (fun hHeld => ?_)
     refine z00 (f:=14) (by kernel_rfl) (by assumption) [(0,true),(1,true)] rfl (by kernel_rfl) ?_
     repeat (refine SeqH.take (v:=?_) rfl (fun _ _ _ h => h) (by kernel_rfl) ?_ ?_; rotate_left; (· (intro w hSw; (try dsimp only at hSw); go_simp) <;> with_reducible rfl); (try simp only [Act.put,J1,J2,J3,J4,J5,J6]))
     refine SeqH.nil ?_
     refine Jr (rs:=[2]) (by kernel_rfl) (by simp) ?_
     refine Jd rfl (fun K hK => ?_) Je
     go_simp
     go_at_call 217
     refine ((HL1 _).out).mono ?_
     rintro e wc ⟨rfl,hbc⟩
     have HBc : Hid (Below W8.heap.size W8 wc):=belS ((Below.refl W8.heap.size W8).drew) hbc
     clear hbc
     try dsimp only
     refine hK.out _ _ (HF9.out _ HBc.out) (fun hHeld => ?_)
     clear hK K
     try simp only [Act.put,J1,J2,J3,J4,J5,J6]
     refine z00 (f:=0) (by kernel_rfl) (by assumption) [(3,true),(4,true),(5,false),(6,false),(7,false),(8,false),(9,false),(10,false),(11,false),(12,false),(13,false),(14,false),(15,true)] rfl (by kernel_rfl) ?_
     repeat (first | (refine SeqH.skip rfl (fun _ _ _ h => h) (by kernel_rfl) ?_; (try simp only [Act.put,J1,J2,J3,J4,J5,J6])) | (refine SeqH.take (v:=?_) rfl (fun _ _ _ h => h) (by kernel_rfl) ?_ ?_; rotate_left; (· (intro w hSw; (try dsimp only at hSw); go_simp) <;> with_reducible rfl); (try simp only [Act.put,J1,J2,J3,J4,J5,J6])))
     refine SeqH.nil ?_
     refine wpAnyH_done (by kernel_rfl) ?_ _
     clear hHeld
     go_wp2_with fail
     all_goals go_ret
     all_goals exact ⟨by rw [hpf.out]; rfl,(HXB.out _ (HX8.out _ HBc.out).2.2.2).2.2.2.2⟩
    | true =>
     have HS2:=Jh (HSH.out hL1)
     have hme:=(z4i hL1).2
     rw [hL1] at HL1
     have hps2 : PS = (z08 (z09 names m) l n (toX d x1) (s,sq) (b,q) y && (if j + 1 < of.length then z40 (fun t' u' y => z08 (z09 names m) l n (toX d x1) t' u' y) (b,q) (b,q) (ats.drop (j + 1)) (of.drop (j + 1)) else true)):=by rw [HPS.out,hL1,Bool.true_and]
     have HME:=Jh hme
     obtain ⟨R,hR⟩ : ∃ R,z08 (z09 names m) l n (toX d x1) (s,sq) (b,q) y = R:=⟨_,rfl⟩
     rw [hR] at HS2 hps2
     clear hL1 HSH hme hR
     cases R with
     | false =>
      have hpf : Hid (PS = false):=by rw [Hid,hps2]; rfl
      clear hps2
      refine wrd (by kernel_rfl) HF9.out ((Below.refl W8.heap.size W8).drew) (fun hHeld => ?_)
      refine z00 (f:=14) (by kernel_rfl) (by assumption) [(0,true),(1,true)] rfl (by kernel_rfl) ?_
      repeat (refine SeqH.take (v:=?_) rfl (fun _ _ _ h => h) (by kernel_rfl) ?_ ?_; rotate_left; (· (intro w hSw; (try dsimp only at hSw); go_simp) <;> with_reducible rfl); (try simp only [Act.put,J1,J2,J3,J4,J5,J6]))
      refine SeqH.nil ?_
      refine Jr (rs:=[2]) (by kernel_rfl) (by simp) ?_
      refine Jd rfl (fun K hK => ?_) Je
      go_simp
      go_at_call 217
      refine ((HL1 _).out).mono ?_
      rintro e wc ⟨rfl,hbc⟩
      have HBc : Hid (Below W8.heap.size W8 wc):=belS ((Below.refl W8.heap.size W8).drew) hbc
      clear hbc
      try dsimp only
      refine hK.out _ _ (HF9.out _ HBc.out) (fun hHeld => ?_)
      clear hK K
      try simp only [Act.put,J1,J2,J3,J4,J5,J6]
      refine z00 (f:=3) (by kernel_rfl) (by assumption) [(3,true),(4,true),(5,true),(6,true),(7,true),(8,true),(9,true),(10,true),(11,true),(12,true)] rfl (by kernel_rfl) ?_
      repeat (refine SeqH.take (v:=?_) rfl (fun _ _ _ h => h) (by kernel_rfl) ?_ ?_; rotate_left; (· (intro w hSw; (try dsimp only at hSw); go_simp) <;> with_reducible rfl); (try simp only [Act.put,J1,J2,J3,J4,J5,J6]))
      refine SeqH.nil ?_
      refine Jr (rs:=[13]) (by kernel_rfl) (by simp) ?_
      refine Jd rfl (fun K hK => ?_) Je
      go_simp
      go_at_call 53
      refine (HS2.out _ HBc.out).mono ?_
      rintro e wd ⟨rfl,hbd⟩
      have HBd : Hid (Below W8.heap.size W8 wd):=belS (HBc.out) hbd
      clear hbd
      try dsimp only
      refine hK.out _ _ (HF9.out _ HBd.out) (fun hHeld => ?_)
      clear hK K
      try simp only [Act.put,J1,J2,J3,J4,J5,J6]
      refine z00 (f:=0) (by kernel_rfl) (by assumption) [(14,true),(15,true)] rfl (by kernel_rfl) ?_
      repeat (refine SeqH.take (v:=?_) rfl (fun _ _ _ h => h) (by kernel_rfl) ?_ ?_; rotate_left; (· (intro w hSw; (try dsimp only at hSw); go_simp) <;> with_reducible rfl); (try simp only [Act.put,J1,J2,J3,J4,J5,J6]))
      refine SeqH.nil ?_
      refine wpAnyH_done (by kernel_rfl) ?_ _
      clear hHeld
      go_wp2_with fail
      all_goals go_ret
      all_goals exact ⟨by rw [hpf.out]; rfl,(HXB.out _ (HX8.out _ HBd.out).2.2.2).2.2.2.2⟩
     | true =>
      rw [Bool.true_and] at hps2
      have HPS2:=Jh hps2
      clear hps2
      refine wrd (by kernel_rfl) HF9.out ((Below.refl W8.heap.size W8).drew) (fun hHeld => ?_)
      refine z00 (f:=14) (by kernel_rfl) (by assumption) [(0,true),(1,true)] rfl (by kernel_rfl) ?_
      repeat (refine SeqH.take (v:=?_) rfl (fun _ _ _ h => h) (by kernel_rfl) ?_ ?_; rotate_left; (· (intro w hSw; (try dsimp only at hSw); go_simp) <;> with_reducible rfl); (try simp only [Act.put,J1,J2,J3,J4,J5,J6]))
      refine SeqH.nil ?_
      refine Jr (rs:=[2]) (by kernel_rfl) (by simp) ?_
      refine Jd rfl (fun K hK => ?_) Je
      go_simp
      go_at_call 217
      refine ((HL1 _).out).mono ?_
      rintro e wc ⟨rfl,hbc⟩
      have HBc : Hid (Below W8.heap.size W8 wc):=belS ((Below.refl W8.heap.size W8).drew) hbc
      clear hbc
      try dsimp only
      refine hK.out _ _ (HF9.out _ HBc.out) (fun hHeld => ?_)
      clear hK K
      try simp only [Act.put,J1,J2,J3,J4,J5,J6]
      refine z00 (f:=3) (by kernel_rfl) (by assumption) [(3,true),(4,true),(5,true),(6,true),(7,true),(8,true),(9,true),(10,true),(11,true),(12,true)] rfl (by kernel_rfl) ?_
      repeat (refine SeqH.take (v:=?_) rfl (fun _ _ _ h => h) (by kernel_rfl) ?_ ?_; rotate_left; (· (intro w hSw; (try dsimp only at hSw); go_simp) <;> with_reducible rfl); (try simp only [Act.put,J1,J2,J3,J4,J5,J6]))
      refine SeqH.nil ?_
      refine Jr (rs:=[13]) (by kernel_rfl) (by simp) ?_
      refine Jd rfl (fun K hK => ?_) Je
      go_simp
      go_at_call 53
      refine (HS2.out _ HBc.out).mono ?_
      rintro e wd ⟨rfl,hbd⟩
      have HBd : Hid (Below W8.heap.size W8 wd):=belS (HBc.out) hbd
      clear hbd
      try dsimp only
      refine hK.out _ _ (HF9.out _ HBd.out) (fun hHeld => ?_)
      clear hK K
      try simp only [Act.put,J1,J2,J3,J4,J5,J6]
      refine z00 (f:=0) (by kernel_rfl) (by assumption) [(14,true),(15,true)] rfl (by kernel_rfl) ?_
      repeat (refine SeqH.take (v:=?_) rfl (fun _ _ _ h => h) (by kernel_rfl) ?_ ?_; rotate_left; (· (intro w hSw; (try dsimp only at hSw); go_simp) <;> with_reducible rfl); (try simp only [Act.put,J1,J2,J3,J4,J5,J6]))
      refine SeqH.nil ?_
      refine wpAnyH_done (by kernel_rfl) ?_ _
      clear hHeld
      obtain ⟨ky,ke,kt,kb⟩:=HX8.out wd HBd.out
      have f0:=Jc ke 0
      have f1:=Jc ke 1
      have f2:=(Array.getElem?_eq_some_iff.1 ke).1
      have f3:=Jc kt 0
      have f4:=Jc kt 1
      have f5:=Jf kt 0
      have f6:=Jf kt 1
      have f7:=(Array.getElem?_eq_some_iff.1 kt).1
      simp only [J9,J7,J8] at f0 f1 f3 f4
      have HKT:=Jh kt
      have HKB:=Jh kb
      clear ky ke kt kb
      go_wp2_with fail
      have HN1 : Hid (Bt (w.heap.size + 1 + 1) WB (set2 wd (w.heap.size + 1 + 1) (.int .i64 b) (.int .i64 q))):=HKB.out.set2' _ _
      have HN2 : Hid (∃ s sq,(set2 wd (w.heap.size + 1 + 1) (.int .i64 b) (.int .i64 q)).heap[w.heap.size + 1 + 1]? = some (.cells #[.int .i64 s,.int .i64 sq] 50 (0,0)) ∧ mayP (s,sq) = true ∧ in64 s ∧ PS = if j + 1 < of.length then z40 (fun t' u' y => z08 (z09 names m) l n (toX d x1) t' u' y) (b,q) (s,sq) (ats.drop (j + 1)) (of.drop (j + 1)) else true):=⟨b,q,z57 HKT.out _ _,HME.out,HIE.out,HPS2.out⟩
      first | exact ⟨⟨j + 1,HLT.out,rfl,HN1,HN2⟩,meas' HLT.out⟩ | (go_roundw; (case rel => exact ⟨j + 1,HLT.out,rfl,HN1,HN2⟩); (case measure => exact meas' HLT.out))
  ·have hpt : Hid (PS = true):=by rw [Hid,hps,if_neg hlt]
   have hji : ¬ ((j : Int) < (l4 : Int)):=by have:=HL4.out; omega
   have hji' : decide ((j : Int) < (l4 : Int)) = false:=by simpa using hji
   clear hps hcu hms his
   go_wp2_with fail
   all_goals go_ret
   all_goals exact ⟨by rw [hpt.out]; rfl,(HXB.out _ HBT.out).2.2.2.2⟩
end Go.Proofs.YtockinpjfhhkoaaGreatDoor
