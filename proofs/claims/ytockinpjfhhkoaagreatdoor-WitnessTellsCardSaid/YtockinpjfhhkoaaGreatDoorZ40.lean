/- The document's check of a proof, walked. (Printed by gen_ted.py.) -/
import Derived.Deep.RegionHeld
import Derived.Deep.Cut
import Derived.LoopTactic
import Derived.Test.YtockinpjfhhkoaaGreatDoorZ23
import Derived.Test.YtockinpjfhhkoaaGreatDoorZ39
set_option maxRecDepth 100000
set_option maxHeartbeats 16000000
open List renaming setIfInBounds_toArray → J1, set_cons_zero → J2, set_cons_succ → J3, getElem_toArray → J4, getElem_cons_zero → J5, getElem_cons_succ → J6, getElem?_cons_zero → J7, getElem?_cons_succ → J8, getElem?_toArray → J9
open Go.Lib renaming cell_of_heap → Jc, frozen_of_heap → Jf, hid → Jh
open Go.AllReadyH renaming cons → Jd, nil → Je
open Go renaming wpAnyH_ready → Jr
open Go.RowKit.Below renaming heap_alloc → Jb
namespace Go.Proofs.YtockinpjfhhkoaaGreatDoor
open Go.RowKit
theorem shows58_step (names : List ByteArray) (nv : Value) (la : Option Addr) (lc : Nat) (l : List (Int × Int)) (m n : Nat) (h8 : names.length ≤ 8) (hsu : SumOk l) (hlen : l.length ≤ 100000) (hon : ∀ s ∈ l,¬ 0 < s.2 / 2 ^ names.length)
 (ih : ∀ d,ShowsB names m nv la lc l d n) : ∀ d,ShowsB names m nv la lc l d (n + 1):=by
 intro d x xv a p b q t wv w henv hx hcap r1 r2 r3 hp hok hsg ht hu ia ib
 cases d with
 | zero => exact nomatch x
 | succ d =>
 obtain ⟨k,is,xs,⟨lo,ls,hi,hs,op⟩⟩:=x
 obtain ⟨wk,sd,ats,of⟩:=t
 obtain ⟨a1,c1,a2,c2,rfl,hfr,hxr⟩:=hx
 obtain ⟨va,a4,c4,rfl,hm4,hra,hpr⟩:=hp
 obtain ⟨a3,c3,rfl,hm3,hra'⟩:=id hra
 dsimp only at *
 obtain ⟨il,hil⟩ : ∃ z,is.length = z:=⟨_,rfl⟩
 obtain ⟨ol,hol⟩ : ∃ z,xs.length = z:=⟨_,rfl⟩
 obtain ⟨l3,hl3⟩ : ∃ z,ats.length = z:=⟨_,rfl⟩
 obtain ⟨l4,hl4⟩ : ∃ z,of.length = z:=⟨_,rfl⟩
 have r1' : (z02 k is xs.length ⟨lo,ls,hi,hs,op⟩ && xs.all (allX z02 d)) = true:=r1
 have r2' : (z11 k is xs.length ⟨lo,ls,hi,hs,op⟩ && xs.all (allX z11 d)) = true:=r2
 rw [Bool.and_eq_true,List.all_eq_true] at r1' r2'
 obtain ⟨q1,q2⟩:=r1'
 obtain ⟨o1,o2⟩:=r2'
 clear r1 r2
 have hkk:=right_parts q1
 obtain ⟨f1,f2⟩:=r3
 dsimp only at f1 f2
 have HPX : Hid (PartsB w names m d a2 xs):=partsB_of hxr hcap q2 o2 f2
 obtain ⟨R,hR⟩ : ∃ R,z0q (z09 names m) l (n + 1) (toX (d + 1) (k,is,xs,⟨lo,ls,hi,hs,op⟩)) (a,p) (b,q) (wk,sd,ats,of) = R:=⟨_,rfl⟩
 have HR : Hid (R = stepH (z09 names m) l (z0q (z09 names m) l n) k (is.map (toF m)) (xs.map (toX d)) ⟨lo,ls,hi,hs,op⟩ (a,p) (b,q) wk sd ats of):=by
  rw [Hid,← hR]
  refine (show _ = z6b (z09 names m) l (z0q (z09 names m) l n) k (is.map (toF m)) (xs.map (toX d)) ⟨lo,ls,hi,hs,op⟩ (a,p) (b,q) wk sd ats of from rfl).trans (stepH_eq _ _ _ _ _ _ _ _ _ _ _ _ _ ?_)
  rcases hkk with ⟨h1,h2,_⟩ | ⟨h1,h2⟩ | ⟨h1,h2⟩ | ⟨h1,h2⟩ | ⟨h1,h2⟩ | ⟨h1,h2,_⟩
  ·exact .inl ⟨h1,by rw [List.eq_nil_of_length_eq_zero h2]; rfl⟩
  ·exact .inr (.inl ⟨h1,by simpa using h2⟩)
  ·exact .inr (.inr (.inl ⟨h1,by simpa using h2⟩))
  ·exact .inr (.inr (.inr (.inl ⟨h1,by simpa using h2⟩)))
  ·exact .inr (.inr (.inr (.inr (.inl ⟨h1,by simpa using h2⟩))))
  ·exact .inr (.inr (.inr (.inr (.inr ⟨h1,by simpa using h2⟩))))
 rw [hR]
 have HCP : Hid (ol ≤ c2):=by
  obtain ⟨_,_,_,_,_,_,_,_,_,_,e,hl,_⟩:=hcap
  have e':=e
  simp only [Value.agg.injEq,Array.mk.injEq,List.cons.injEq,Value.slice.injEq,and_true] at e'
  obtain ⟨_,_,⟨_,e2,e3⟩,_⟩:=e'
  show ol ≤ c2
  omega
 have HKK : Hid ((k = 1 ∧ ol = 0 ∧ is.length = 1) ∨ (k = 2 ∧ ol = 2) ∨ (k = 3 ∧ ol = 2) ∨ (k = 4 ∧ ol = 2) ∨ (k = 5 ∧ ol = 1) ∨ (k = 6 ∧ ol = 1 ∧ (0 ≤ lo ∧ lo < 288230376151711744) ∧ (0 ≤ hi ∧ hi < 288230376151711744))):=by rw [← hol]; exact hkk
 have HSG : Hid ((0 ≤ sd ∧ sd ≤ 255) ∧ ∀ y ∈ of,rngS n y):=⟨hsg.1.1,hsg.2⟩
 have HFW : Hid (l4 ≤ 6000):=by rw [← hl4]; exact hsg.1.2
 have HKO : Hid ((∀ s ∈ ats,in64 s.1) ∧ ats.length ≤ 100000 ∧ ∀ y ∈ of,okT n y):=hok
 have hra3 : RatsRep w w.heap.size (.slice a3 l3 c3) ats:=by rw [← hl3]; exact hra
 rw [hil,hol,hl3,hl4]
 obtain ⟨WB,hWWB⟩ : ∃ WB,WB = (((w.alloc (.cells #[.int .u8 k,.slice a1 il c1,.slice a2 ol c2,.int .i64 lo,.bool ls,.int .i64 hi,.bool hs,.bool op] 47)).alloc (.cells #[.int .i64 a,.int .i64 p] 50)).alloc (.cells #[.int .i64 b,.int .i64 q] 50)).alloc (.cells #[.int .u8 wk,.int .u8 sd,.slice a3 l3 c3,.slice a4 l4 c4] 56):=⟨_,rfl⟩
 have hbWB : Below w.heap.size w WB:=by rw [hWWB]; exact (((z0c _ _).alloc (by simp <;> omega) _).alloc (by simp <;> omega) _).alloc (by simp <;> omega) _
 have hx0 : WB.heap[w.heap.size]? = some (.cells #[.int .u8 k,.slice a1 il c1,.slice a2 ol c2,.int .i64 lo,.bool ls,.int .i64 hi,.bool hs,.bool op] 47 (0,0)):=by rw [hWWB]; exact (Jb _ _ _ (by simp <;> omega)).trans ((Jb _ _ _ (by simp <;> omega)).trans ((Jb _ _ _ (by simp <;> omega)).trans (z03 rfl)))
 have hx1 : WB.heap[w.heap.size + 1]? = some (.cells #[.int .i64 a,.int .i64 p] 50 (0,0)):=by rw [hWWB]; exact (Jb _ _ _ (by simp <;> omega)).trans ((Jb _ _ _ (by simp <;> omega)).trans (z03 (by simp)))
 have hx2 : WB.heap[w.heap.size + 1 + 1]? = some (.cells #[.int .i64 b,.int .i64 q] 50 (0,0)):=by rw [hWWB]; exact (Jb _ _ _ (by simp <;> omega)).trans (z03 (by simp))
 have hx3 : WB.heap[w.heap.size + 1 + 1 + 1]? = some (.cells #[.int .u8 wk,.int .u8 sd,.slice a3 l3 c3,.slice a4 l4 c4] 56 (0,0)):=by rw [hWWB]; exact z03 (by simp)
 have HX : Hid (∀ W,Below WB.heap.size WB W → W.heap[w.heap.size]? = some (.cells #[.int .u8 k,.slice a1 il c1,.slice a2 ol c2,.int .i64 lo,.bool ls,.int .i64 hi,.bool hs,.bool op] 47 (0,0)) ∧ W.heap[w.heap.size + 1]? = some (.cells #[.int .i64 a,.int .i64 p] 50 (0,0)) ∧ W.heap[w.heap.size + 1 + 1]? = some (.cells #[.int .i64 b,.int .i64 q] 50 (0,0)) ∧ W.heap[w.heap.size + 1 + 1 + 1]? = some (.cells #[.int .u8 wk,.int .u8 sd,.slice a3 l3 c3,.slice a4 l4 c4] 56 (0,0))):=fun W hW => ⟨(hW.block _ (Array.getElem?_eq_some_iff.1 hx0).1).trans hx0,(hW.block _ (Array.getElem?_eq_some_iff.1 hx1).1).trans hx1,(hW.block _ (Array.getElem?_eq_some_iff.1 hx2).1).trans hx2,(hW.block _ (Array.getElem?_eq_some_iff.1 hx3).1).trans hx3⟩
 have HF : Hid (∀ W,Below WB.heap.size WB W → W.cell? ⟨w.heap.size,0,none⟩ = some (.int .u8 k) ∧ W.cell? ⟨w.heap.size,1,none⟩ = some (.slice a1 il c1) ∧ W.cell? ⟨w.heap.size,2,none⟩ = some (.slice a2 ol c2) ∧ W.cell? ⟨w.heap.size,3,none⟩ = some (.int .i64 lo) ∧ W.cell? ⟨w.heap.size,4,none⟩ = some (.bool ls) ∧ W.cell? ⟨w.heap.size,5,none⟩ = some (.int .i64 hi) ∧ W.cell? ⟨w.heap.size,6,none⟩ = some (.bool hs) ∧ W.cell? ⟨w.heap.size,7,none⟩ = some (.bool op) ∧ W.cell? ⟨w.heap.size + 1,0,none⟩ = some (.int .i64 a) ∧ W.cell? ⟨w.heap.size + 1,1,none⟩ = some (.int .i64 p) ∧ W.cell? ⟨w.heap.size + 1 + 1,0,none⟩ = some (.int .i64 b) ∧ W.cell? ⟨w.heap.size + 1 + 1,1,none⟩ = some (.int .i64 q) ∧ W.cell? ⟨w.heap.size + 1 + 1 + 1,0,none⟩ = some (.int .u8 wk) ∧ W.cell? ⟨w.heap.size + 1 + 1 + 1,1,none⟩ = some (.int .u8 sd) ∧ W.cell? ⟨w.heap.size + 1 + 1 + 1,2,none⟩ = some (.slice a3 l3 c3) ∧ W.cell? ⟨w.heap.size + 1 + 1 + 1,3,none⟩ = some (.slice a4 l4 c4) ∧ w.heap.size < W.heap.size ∧ w.heap.size + 1 < W.heap.size ∧ w.heap.size + 1 + 1 < W.heap.size ∧ w.heap.size + 1 + 1 + 1 < W.heap.size):=by
  intro W hW
  obtain ⟨k0,k1,k2,k3⟩:=HX.out W hW
  exact ⟨Jc k0 0,Jc k0 1,Jc k0 2,Jc k0 3,Jc k0 4,Jc k0 5,Jc k0 6,Jc k0 7,Jc k1 0,Jc k1 1,Jc k2 0,Jc k2 1,Jc k3 0,Jc k3 1,Jc k3 2,Jc k3 3,(Array.getElem?_eq_some_iff.1 k0).1,(Array.getElem?_eq_some_iff.1 k1).1,(Array.getElem?_eq_some_iff.1 k2).1,(Array.getElem?_eq_some_iff.1 k3).1⟩
 have HBB:=Jh hbWB
 have HWB:=Jh hWWB.symm
 clear hWWB hbWB hx0 hx1 hx2 hx3
 have HENV : Hid (∀ W,Below WB.heap.size WB W → EnvC names nv la lc l W ∧ PartsB W names m d a2 xs ∧ FRow W W.heap.size m a1 is ∧ RatsRep W W.heap.size (.slice a3 l3 c3) ats ∧ PRow W W.heap.size n a4 of):=fun W hW => by
  have h:=HBB.out.trans (hW.mono HBB.out.size)
  exact ⟨henv.up h,HPX.out.up h,hfr.up h h.size,hra3.upT h h.size,PRow.up hpr h h.size⟩
 have HSU:=Jh hsu
 have HLE:=Jh hlen
 have HON:=Jh hon
 have HT:=Jh ht
 have HU:=Jh hu
 have HIA:=Jh ia
 have HIB:=Jh ib
 have HIH:=Jh ih
 have HL8:=Jh h8
 have HF1 : Hid (∀ f ∈ is,fmlR names m f = 0 ∧ allF z04 m f = true ∧ allF (z0g names) m f = true):=f1
 have HIL:=Jh hil
 have HOL:=Jh hol
 have HL3:=Jh hl3
 have HL4:=Jh hl4
 have HKL : Hid (l4 ≤ 9223372036854775807):=by rw [← hl4]; exact hm4
 clear henv hcap hok hsg ht hu ia ib hfr hxr hm4 hra hpr hm3 hra' hil hol hl3 hl4 q1 q2 o1 o2 hkk f1 f2 HPX hR hra3 hsu hlen hon ih h8
 go_enter Tryz.func58,Tryz.ntmps58
 go_upto_region 1 with fail
 rw [HWB.out]
 clear HWB
 obtain ⟨xf0,xf1,xf2,xf3,xf4,xf5,xf6,xf7,xf8,xf9,xf10,xf11,xf12,xf13,xf14,xf15,xf16,xf17,xf18,xf19⟩:=HF.out WB (Below.refl _ _)
 go_upto_region 4 with fail
 go_cut [28] from 29 (fun sv wx => sv = .int .u8 k ∧ wx = WB)
 case first =>
  go_wp2_with fail
  go_meet
  exact ⟨rfl,rfl⟩
 obtain ⟨rfl,hwc⟩:=hcut
 rw [hwc]
 clear hwc
 go_step
 go_cut [14,15] from 22 (fun sv pv wx => ∃ (side : Int) (ps : List (XT m d)) (pa : Option Addr) (pn pc : Nat),sv = .int .i64 side ∧ pv = .slice pa pn pc ∧ Hid (ps.length = pn) ∧ Hid (PartsB wx names m d pa ps) ∧ Hid (R = z3a (z09 names m) l (z0q (z09 names m) l n) k (is.map (toF m)) ⟨lo,ls,hi,hs,op⟩ (a,p) (b,q) wk sd side (ps.map (toX d)) ats of) ∧ Hid (0 ≤ side ∧ side ≤ 2) ∧ Hid ((k = 4 ∨ k = 5) → 0 < pn) ∧ Hid (Below WB.heap.size WB wx))
 case first =>
  have HPW : Hid (PartsB WB names m d a2 xs):=(HENV.out WB (Below.refl _ _)).2.1
  by_cases hk2 : k = 2
  ·subst hk2
   have hol2 : ol = 2:=by rcases HKK.out with h | h | h | h | h | h <;> omega
   have HRR : Hid (R = if sd < 1 ∨ 2 < sd then false else z3a (z09 names m) l (z0q (z09 names m) l n) 2 (is.map (toF m)) ⟨lo,ls,hi,hs,op⟩ (a,p) (b,q) wk sd sd (((xs.map (toX d)).drop (sd - 1).toNat).take 1) ats of):=by
    rw [Hid,HR.out]; unfold stepH; rw [if_pos rfl]
   by_cases s1 : sd < 1
   ·have HE : Hid (R = false):=by rw [Hid,HRR.out,if_pos (.inl s1)]
    clear HR HRR HKK
    go_wp2_with fail
    all_goals go_ret
    all_goals exact ⟨by rw [HE.out]; rfl,HBB.out⟩
   ·by_cases s2 : 2 < sd
    ·have HE : Hid (R = false):=by rw [Hid,HRR.out,if_pos (.inr s2)]
     clear HR HRR HKK
     go_wp2_with fail
     all_goals go_ret
     all_goals exact ⟨by rw [HE.out]; rfl,HBB.out⟩
    ·rw [if_neg (by omega)] at HRR
     subst hol2
     have hc2:=HCP.out
     have hx2 : xs.length = 2:=HOL.out
     obtain ⟨g,off,vs,rfl,hg,hv8,hcs,hrest⟩:=HPW.out ((sd - 1).toNat) (by omega)
     obtain ⟨xk,hxk⟩ : ∃ z,xs[(sd - 1).toNat]'(by omega) = z:=⟨_,rfl⟩
     rw [hxk] at hrest
     have HP1 : Hid (PartsB WB names m d (some ⟨g,off + (sd - 1).toNat * 8,none⟩) [xk]):=fun j hj => by
      have hj' : j < 1:=hj
      obtain rfl : j = 0:=by omega
      exact ⟨g,off + (sd - 1).toNat * 8,vs,rfl,hg,hv8,fun i hi => by simpa using hcs i hi,hrest⟩
     have HE : Hid (R = z3a (z09 names m) l (z0q (z09 names m) l n) 2 (is.map (toF m)) ⟨lo,ls,hi,hs,op⟩ (a,p) (b,q) wk sd sd ([xk].map (toX d)) ats of):=by
      rw [Hid,HRR.out]
      congr 1
      rw [← List.map_drop,← List.map_take,List.drop_eq_getElem_cons (show (sd - 1).toNat < xs.length by omega),hxk]
      rfl
     clear HR HRR HKK hrest hcs hv8 HPW hxk hx2
     have HC2:=Jh hc2
     rcases (by omega : sd = 1 ∨ sd = 2) with rfl | rfl
     ·have u1 : (1 : Int) ≤ (c2 : Int):=by omega
      go_wp2_with fail
      go_meet
      exact ⟨1,[xk],_,1,_,rfl,rfl,rfl,HP1,HE,⟨by decide,by decide⟩,fun _ => by decide,Below.refl _ _⟩
     ·have u1 : (2 : Int) ≤ (c2 : Int):=by omega
      go_wp2_with fail
      go_meet
      exact ⟨2,[xk],_,1,_,rfl,rfl,rfl,HP1,HE,⟨by decide,by decide⟩,fun _ => by decide,Below.refl _ _⟩
  have e2 : (k == 2) = false:=by simpa using hk2
  by_cases hk5 : k = 5
  ·skip
   subst hk5
   have hxl : xs.length = 1:=by have h0 : xs.length = ol:=HOL.out; rcases HKK.out with h | h | h | h | h | h <;> omega
   obtain ⟨x1,hx1⟩:=List.length_eq_one_iff.1 hxl
   subst hx1
   obtain rfl : 1 = ol:=HOL.out
   have HRR : Hid (R = if l4 = 0 then false else z3a (z09 names m) l (z0q (z09 names m) l n) 5 (is.map (toF m)) ⟨lo,ls,hi,hs,op⟩ (a,p) (b,q) wk sd 0 ((List.replicate l4 x1).map (toX d)) ats of):=by
    rw [Hid,HR.out]; unfold stepH; rw [if_neg (by decide),if_pos rfl,HL4.out,List.map_replicate]; rfl
   obtain ⟨g,off,vs,rfl,hg,hv8,hcs,hrest⟩:=HPW.out 0 (by simp)
   obtain ⟨z0,z1,z2,z3,z4,z5,z6,z7,rfl⟩:=list_eight hv8
   obtain ⟨yk,ya,yn,yc,yb,ym,ye,ylo,yls,yhi,yhs,yop,hye⟩:=hrest.1.shape
   simp only [Value.agg.injEq,Array.mk.injEq,List.cons.injEq,and_true] at hye
   obtain ⟨rfl,rfl,rfl,rfl,rfl,rfl,rfl,rfl⟩:=hye
   simp only [Nat.zero_mul,Nat.add_zero] at hcs
   have HG : Hid (∀ W,Below WB.heap.size WB W → W.cell? ⟨g,off,none⟩ = some (.int .u8 yk) ∧ W.cell? ⟨g,off + 1,none⟩ = some (.slice ya yn yc) ∧ W.cell? ⟨g,off + 2,none⟩ = some (.slice yb ym ye) ∧ W.cell? ⟨g,off + 3,none⟩ = some (.int .i64 ylo) ∧ W.cell? ⟨g,off + 4,none⟩ = some (.bool yls) ∧ W.cell? ⟨g,off + 5,none⟩ = some (.int .i64 yhi) ∧ W.cell? ⟨g,off + 6,none⟩ = some (.bool yhs) ∧ W.cell? ⟨g,off + 7,none⟩ = some (.bool yop) ∧ g < W.heap.size):=fun W hW =>
    ⟨(hW.cell (p:=⟨g,_,none⟩) hg).trans (hcs 0 (by decide)),(hW.cell (p:=⟨g,_,none⟩) hg).trans (hcs 1 (by decide)),(hW.cell (p:=⟨g,_,none⟩) hg).trans (hcs 2 (by decide)),(hW.cell (p:=⟨g,_,none⟩) hg).trans (hcs 3 (by decide)),(hW.cell (p:=⟨g,_,none⟩) hg).trans (hcs 4 (by decide)),(hW.cell (p:=⟨g,_,none⟩) hg).trans (hcs 5 (by decide)),(hW.cell (p:=⟨g,_,none⟩) hg).trans (hcs 6 (by decide)),(hW.cell (p:=⟨g,_,none⟩) hg).trans (hcs 7 (by decide)),Nat.lt_of_lt_of_le hg hW.size⟩
   have HPV : Hid (XRep WB WB.heap.size m d x1 (.agg (List.toArray ([.int .u8 yk,.slice ya yn yc,.slice yb ym ye,.int .i64 ylo,.bool yls,.int .i64 yhi,.bool yhs,.bool yop] : List Value))) ∧ CapX WB WB.heap.size d (.agg (List.toArray ([.int .u8 yk,.slice ya yn yc,.slice yb ym ye,.int .i64 ylo,.bool yls,.int .i64 yhi,.bool yhs,.bool yop] : List Value))) ∧ allX z02 d x1 = true ∧ allX z11 d x1 = true ∧ fineX names d x1):=hrest
   have HONE : Hid (∀ u ∈ ([.int .u8 yk,.slice ya yn yc,.slice yb ym ye,.int .i64 ylo,.bool yls,.int .i64 yhi,.bool yhs,.bool yop] : List Value),u.oneCell' = true):=by intro u hu; simp at hu; rcases hu with rfl | rfl | rfl | rfl | rfl | rfl | rfl | rfl <;> rfl
   have HC1 : Hid ((1 : Int) ≤ (c2 : Int)):=by have:=HCP.out; show (1 : Int) ≤ (c2 : Int); omega
   obtain ⟨V,hV⟩ : ∃ V : List Value,([.int .u8 yk,.slice ya yn yc,.slice yb ym ye,.int .i64 ylo,.bool yls,.int .i64 yhi,.bool yhs,.bool yop] : List Value) = V:=⟨_,rfl⟩
   have HV:=Jh hV
   have hcz:=HC1.out
   clear hV hrest hcs hv8 hg HR HKK HPW hxl
   go_wp2_with fail
   go_loopw [15,16] (fun pv iv wr => ∃ j : Nat,j ≤ l4 ∧ iv = .int .i64 j ∧ Hid (wr.ownsRow WB.heap.size 47 8 pv j (List.replicate j V).flatten) ∧ Hid (Below WB.heap.size WB wr)) (fun _ iv _ => l4 - (intOf iv).toNat)
   case atStart => exact ⟨0,Nat.zero_le _,rfl,World.ownsRow_nil _ _ _ _,Below.refl _ _⟩
   case round =>
    clear xf0 xf1 xf2 xf3 xf4 xf5 xf6 xf7 xf8 xf9 xf10 xf11 xf12 xf13 xf14 xf15 xf16 xf17 xf18 xf19
    obtain ⟨j,hj,rfl,HOW,HBR⟩:=hrel
    obtain ⟨xf0,xf1,xf2,xf3,xf4,xf5,xf6,xf7,xf8,xf9,xf10,xf11,xf12,xf13,xf14,xf15,xf16,xf17,xf18,xf19⟩:=HF.out wr HBR.out
    by_cases hlt : j < l4
    ·obtain ⟨W1,hW1⟩ : ∃ W1,W1 = wr.alloc (.cells #[.int .u8 yk,.slice ya yn yc,.slice yb ym ye,.int .i64 ylo,.bool yls,.int .i64 yhi,.bool yhs,.bool yop] 47):=⟨_,rfl⟩
     have hb1 : Below wr.heap.size wr W1:=by rw [hW1]; exact z0c _ _
     have hk1 : W1.heap[wr.heap.size]? = some (.cells V.toArray 47 (0,0)):=by rw [hW1,← HV.out]; exact z03 rfl
     have HZ1 : Hid (Below WB.heap.size WB W1):=belS HBR.out hb1
     have ho1 : W1.ownsRow WB.heap.size 47 8 u15 j (List.replicate j V).flatten:=by rw [hW1]; exact World.ownsRow.alloc HOW.out _
     have HRUN:=Jh (run_tre W1 WB.heap.size wr.heap.size j u15 (List.replicate j V).flatten V ho1 HZ1.out.size hk1 (by rw [← HV.out]; rfl) (by rw [← HV.out]; exact HONE.out) (by have:=HFW.out; omega))
     rw [rep_succ] at HRUN
     have HW1:=Jh hW1.symm
     have vz : IntKind.i64.wrap ((j : Int) + 1) = (j : Int) + 1:=IntWalk.i64_in _ (by have:=HFW.out; omega)
     have vz' : wrap64 ((j : Int) + 1) = (j : Int) + 1:=IntWalk.wrap64_in _ (by have:=HFW.out; omega)
     have hji : (j : Int) < (l4 : Int):=by omega
     have HLT:=Jh hlt
     clear hW1 hb1 hk1 ho1 hlt hj
     obtain ⟨q0,q1,q2,q3,q4,q5,q6,q7,q8⟩:=HG.out wr HBR.out
     go_wp2_with (at_builtin; rw [HW1.out]; refine z2a rfl _ _ 43 rfl _ _ rfl rfl _ HRUN.out ?_; intro v2 w2 hvw; obtain ⟨ho2,hb2⟩:=hvw; have HO2:=Jh ho2; have HB2:=Jh hb2; clear ho2 hb2)
     have HN2 : Hid (Below WB.heap.size WB w2):=HZ1.out.trans HB2.out
     first | exact ⟨⟨j + 1,HLT.out,rfl,HO2,HN2⟩,meas HLT.out⟩ | (go_roundw; (case rel => exact ⟨j + 1,HLT.out,rfl,HO2,HN2⟩); (case measure => exact meas HLT.out))
    ·have hjl : l4 = j:=by omega
     subst hjl
     have hji : ¬ ((l4 : Int) < (l4 : Int)):=by omega
     by_cases h0 : l4 = 0
     ·have HE : Hid (R = false):=by rw [Hid,HRR.out,if_pos h0]
      have h0' : ((l4 : Int) == 0) = true:=by simp; exact h0
      clear HRR h0
      go_wp2_with fail
      all_goals go_ret
      all_goals exact ⟨by rw [HE.out]; rfl,HBB.out.trans (HBR.out.mono HBB.out.size)⟩
     ·have HE:=Jh (HRR.out.trans (if_neg h0))
      obtain ⟨g2,cap,hpv,hg2,hg2'⟩:=World.ownsRow.form HOW.out (by omega)
      subst hpv
      have HP2 : Hid (PartsB _ names m d (some ⟨g2,0,none⟩) (List.replicate l4 x1)):=parts_rep HOW.out hg2' (by rw [← HV.out]; rfl) (by rw [← HV.out]; exact HPV.out.1.up HBR.out HBR.out.size) (by rw [← HV.out]; exact HPV.out.2.1.up HBR.out HBR.out.size) HPV.out.2.2.1 HPV.out.2.2.2.1 HPV.out.2.2.2.2
      have hj0 : ((l4 : Int) == 0) = false:=by simp; omega
      have HJ0 : Hid (0 < l4):=by show 0 < l4; omega
      clear HRR h0 hg2 hg2'
      go_wp2_with fail
      go_meet
      exact ⟨0,List.replicate l4 x1,_,l4,_,rfl,rfl,(by show (List.replicate l4 x1).length = l4; simp),HP2,HE,⟨by decide,by decide⟩,fun _ => HJ0.out,HBR⟩
  have e5 : (k == 5) = false:=by simpa using hk5
  have HE : Hid (R = z3a (z09 names m) l (z0q (z09 names m) l n) k (is.map (toF m)) ⟨lo,ls,hi,hs,op⟩ (a,p) (b,q) wk sd 0 (xs.map (toX d)) ats of):=by
   rw [Hid,HR.out]; unfold stepH; rw [if_neg hk2,if_neg hk5]
  have HK4 : Hid ((k = 4 ∨ k = 5) → 0 < ol):=fun h => by rcases HKK.out with g | g | g | g | g | g <;> omega
  clear HR HKK hk2 hk5
  go_wp2_with fail
  go_meet
  exact ⟨0,xs,a2,ol,c2,rfl,rfl,HOL,HPW,HE,⟨by decide,by decide⟩,HK4.out,Below.refl _ _⟩
 case rest =>
  obtain ⟨side,ps,pa,pn,pc,rfl,rfl,HPN,HPP,HRG,HSD,HKP,HBC⟩:=hcut
  clear HR HCP
  clear xf0 xf1 xf2 xf3 xf4 xf5 xf6 xf7 xf8 xf9 xf10 xf11 xf12 xf13 xf14 xf15 xf16 xf17 xf18 xf19
  go_step
  go_upto_region 19 with fail
  obtain ⟨wz,hwz⟩ : ∃ wz,wz = wc:=⟨_,rfl⟩
  rw [← hwz]
  rw [← hwz] at HPP HBC
  clear hwz
  go_cut [71] from 64 (fun sv wx => sv = .bool (decide (k = 4 ∨ k = 5)) ∧ wx = wz)
  case first =>
   obtain ⟨xf0,xf1,xf2,xf3,xf4,xf5,xf6,xf7,xf8,xf9,xf10,xf11,xf12,xf13,xf14,xf15,xf16,xf17,xf18,xf19⟩:=HF.out wz HBC.out
   by_cases k4 : k = 4
   ·subst k4
    go_wp2_with fail
    go_meet
    exact ⟨rfl,rfl⟩
   ·by_cases k5 : k = 5
    ·subst k5
     go_wp2_with fail
     go_meet
     exact ⟨rfl,rfl⟩
    ·have e4 : (k == 4) = false:=by simpa using k4
     have e5 : (k == 5) = false:=by simpa using k5
     go_wp2_with fail
     go_meet
     exact ⟨by simp [k4,k5],rfl⟩
  obtain ⟨rfl,hwz⟩:=hcut
  rw [hwz]
  clear hwz
  go_step
  obtain ⟨tm,htm⟩ : ∃ tm : Int,(if k = 4 ∨ k = 5 then (l4 : Int) - 1 else 0) = tm:=⟨_,rfl⟩
  have HTM:=Jh htm
  go_cut [17] from 64 (fun sv wx => sv = .int .i64 tm ∧ wx = wz)
  case first =>
   by_cases k45 : k = 4 ∨ k = 5
   ·rw [if_pos k45] at htm
    rw [decide_eq_true k45]
    have w1 : IntKind.i64.wrap ((l4 : Int) - 1) = tm:=by rw [htm]; exact IntWalk.i64_in _ (by have:=HKL.out; omega)
    have w2 : wrap64 ((l4 : Int) - 1) = tm:=by rw [htm]; exact IntWalk.wrap64_in _ (by have:=HKL.out; omega)
    clear htm
    go_wp2_with fail
    go_meet
    exact ⟨rfl,rfl⟩
   ·rw [if_neg k45] at htm
    rw [decide_eq_false k45]
    subst htm
    go_wp2_with fail
    go_meet
    exact ⟨rfl,rfl⟩
  obtain ⟨rfl,hwz⟩:=hcut
  rw [hwz]
  clear hwz htm
  go_step
  have HRS : Hid (R = (wk == k && sd == side && decide (l4 = pn) && decide ((l3 : Int) = tm) && (if k = 1 then headD (z09 names m) l (is.map (toF m)) (a,p) (b,q)
   else !(decide (ats ≠ []) && !z23 ((a,p) :: (ats ++ [(b,q)]))) && !(decide (k = 6) && !z2k (a,p) (b,q) ⟨lo,ls,hi,hs,op⟩) && allK (z0q (z09 names m) l n) (decide (ats ≠ [])) (a,p) (b,q) ((a,p) :: (ats ++ [(b,q)])) (ps.map (toX d)) of 0 of.length))):=stepG_is HRG.out HL4.out HL3.out (by rw [List.length_map]; exact HPN.out) HTM.out HKP.out
  by_cases g1 : wk = k
  rotate_left
  ·have HE : Hid (R = false):=by rw [Hid,HRS.out]; simp [g1]
   have e1 : (wk != k) = true:=by simpa using g1
   clear HRS
   obtain ⟨xf0,xf1,xf2,xf3,xf4,xf5,xf6,xf7,xf8,xf9,xf10,xf11,xf12,xf13,xf14,xf15,xf16,xf17,xf18,xf19⟩:=HF.out wz HBC.out
   go_wp2_with fail
   all_goals go_ret
   all_goals exact ⟨by rw [HE.out]; rfl,HBB.out.trans (HBC.out.mono HBB.out.size)⟩
  have e1 : (wk != k) = false:=by simpa using g1
  have v1 : IntKind.i64.wrap sd = sd:=IntWalk.i64_in _ (by have:=HSG.out.1; omega)
  have v2 : wrap64 sd = sd:=IntWalk.wrap64_in _ (by have:=HSG.out.1; omega)
  by_cases g2 : sd = side
  rotate_left
  ·have HE : Hid (R = false):=by rw [Hid,HRS.out]; simp [g2]
   have e2 : (sd != side) = true:=by simpa using g2
   clear HRS
   obtain ⟨xf0,xf1,xf2,xf3,xf4,xf5,xf6,xf7,xf8,xf9,xf10,xf11,xf12,xf13,xf14,xf15,xf16,xf17,xf18,xf19⟩:=HF.out wz HBC.out
   go_wp2_with fail
   all_goals go_ret
   all_goals exact ⟨by rw [HE.out]; rfl,HBB.out.trans (HBC.out.mono HBB.out.size)⟩
  have e2 : (sd != side) = false:=by simpa using g2
  by_cases g3 : l4 = pn
  rotate_left
  ·have HE : Hid (R = false):=by rw [Hid,HRS.out]; simp [g3]
   have e3 : ((l4 : Int) != (pn : Int)) = true:=by simp; omega
   clear HRS
   obtain ⟨xf0,xf1,xf2,xf3,xf4,xf5,xf6,xf7,xf8,xf9,xf10,xf11,xf12,xf13,xf14,xf15,xf16,xf17,xf18,xf19⟩:=HF.out wz HBC.out
   go_wp2_with fail
   all_goals go_ret
   all_goals exact ⟨by rw [HE.out]; rfl,HBB.out.trans (HBC.out.mono HBB.out.size)⟩
  have e3 : ((l4 : Int) != (pn : Int)) = false:=by simp; omega
  by_cases g4 : (l3 : Int) = tm
  rotate_left
  ·have HE : Hid (R = false):=by rw [Hid,HRS.out]; simp [g4]
   have e4 : ((l3 : Int) != tm) = true:=by simpa using g4
   clear HRS
   obtain ⟨xf0,xf1,xf2,xf3,xf4,xf5,xf6,xf7,xf8,xf9,xf10,xf11,xf12,xf13,xf14,xf15,xf16,xf17,xf18,xf19⟩:=HF.out wz HBC.out
   go_wp2_with fail
   all_goals go_ret
   all_goals exact ⟨by rw [HE.out]; rfl,HBB.out.trans (HBC.out.mono HBB.out.size)⟩
  have e4 : ((l3 : Int) != tm) = false:=by simpa using g4
  have HRT : Hid (R = (if k = 1 then headD (z09 names m) l (is.map (toF m)) (a,p) (b,q)
   else !(decide (ats ≠ []) && !z23 ((a,p) :: (ats ++ [(b,q)]))) && !(decide (k = 6) && !z2k (a,p) (b,q) ⟨lo,ls,hi,hs,op⟩) && allK (z0q (z09 names m) l n) (decide (ats ≠ [])) (a,p) (b,q) ((a,p) :: (ats ++ [(b,q)])) (ps.map (toX d)) of 0 of.length)):=by
   rw [Hid,HRS.out]
   have q1 : (wk == k) = true:=by simpa using g1
   have q2 : (sd == side) = true:=by simpa using g2
   rw [q1,q2,decide_eq_true g3,decide_eq_true g4]
   simp only [Bool.true_and,Bool.and_self]
  have HG3:=Jh g3
  have HG4:=Jh g4
  clear HRS HRG g1 g2 g3 g4
  obtain ⟨xf0,xf1,xf2,xf3,xf4,xf5,xf6,xf7,xf8,xf9,xf10,xf11,xf12,xf13,xf14,xf15,xf16,xf17,xf18,xf19⟩:=HF.out wz HBC.out
  go_upto_region 23 with fail
  clear e1 e2 e3 e4 v1 v2
  go_upto_region 24 with fail
  obtain ⟨W1,hW1⟩ : ∃ W1,W1 = wz.alloc (.cells #[.int .i64 a,.int .i64 p] 50):=⟨_,rfl⟩
  rw [← hW1]
  have hb1 : Below wz.heap.size wz W1:=by rw [hW1]; exact z0c _ _
  have hk1 : W1.heap[wz.heap.size]? = some (.cells #[.int .i64 a,.int .i64 p] 50 (0,0)):=by rw [hW1]; exact z03 rfl
  have HZ1:=Jh hb1
  have HB1 : Hid (Below WB.heap.size WB W1):=belS HBC.out hb1
  have HRUN1:=Jh (run_rats W1 wz.heap.size _ (.slice a3 l3 c3) [(a,p)] ats (own_one hk1 (Nat.le_refl _)) HZ1.out.size (HENV.out W1 HB1.out).2.2.2.1 (by have:=HKO.out.2.1; simp; omega))
  clear hW1 hb1 hk1 xf0 xf1 xf2 xf3 xf4 xf5 xf6 xf7 xf8 xf9 xf10 xf11 xf12 xf13 xf14 xf15 xf16 xf17 xf18 xf19
  obtain ⟨xf0,xf1,xf2,xf3,xf4,xf5,xf6,xf7,xf8,xf9,xf10,xf11,xf12,xf13,xf14,xf15,xf16,xf17,xf18,xf19⟩:=HF.out W1 HB1.out
  go_upto_region 25 with (at_builtin; refine z2a rfl _ _ 53 rfl _ _ rfl rfl _ HRUN1.out ?_; intro v2 w2 hvw; obtain ⟨ho2,hb2⟩:=hvw)
  have HZ2 : Hid (Below wz.heap.size wz w2):=HZ1.out.trans hb2
  have HB2 : Hid (Below WB.heap.size WB w2):=belS HBC.out HZ2.out
  obtain ⟨W3,hW3⟩ : ∃ W3,W3 = w2.alloc (.cells #[.int .i64 b,.int .i64 q] 50):=⟨_,rfl⟩
  have hb3 : Below w2.heap.size w2 W3:=by rw [hW3]; exact z0c _ _
  have hk3 : W3.heap[w2.heap.size]? = some (.cells #[.int .i64 b,.int .i64 q] 50 (0,0)):=by rw [hW3]; exact z03 rfl
  have HZ3 : Hid (Below wz.heap.size wz W3):=belS HZ2.out hb3
  have ho3 : OwnR W3 wz.heap.size v2 ([(a,p)] ++ ats):=by rw [hW3]; exact World.ownsRow.alloc ho2 _
  have HRUN2:=Jh (run_rats W3 wz.heap.size v2 _ ([(a,p)] ++ ats) [(b,q)] ho3 HZ3.out.size (rats_oneT hk3 1) (by have:=HKO.out.2.1; simp; omega))
  have HW3:=Jh hW3.symm
  clear hb2 ho2 ho3 hb3 hk3 hW3 HRUN1 HZ1 HB1 xf0 xf1 xf2 xf3 xf4 xf5 xf6 xf7 xf8 xf9 xf10 xf11 xf12 xf13 xf14 xf15 xf16 xf17 xf18 xf19
  obtain ⟨xf0,xf1,xf2,xf3,xf4,xf5,xf6,xf7,xf8,xf9,xf10,xf11,xf12,xf13,xf14,xf15,xf16,xf17,xf18,xf19⟩:=HF.out w2 HB2.out
  go_upto_region 26 with (at_builtin; rw [HW3.out]; refine z2a rfl _ _ 53 rfl _ _ rfl rfl _ HRUN2.out ?_; intro v4 w4 hvw; obtain ⟨ho4,hb4⟩:=hvw)
  have HZ4 : Hid (Below wz.heap.size wz w4):=HZ3.out.trans hb4
  have HB4 : Hid (Below WB.heap.size WB w4):=belS HBC.out HZ4.out
  have HP4 : Hid (PartsB w4 names m d pa ps):=HPP.out.up HZ4.out
  have HRW : Hid (RatsRep w4 w4.heap.size v4 ((a,p) :: (ats ++ [(b,q)]))):=by
   have h:=OwnR.rats ho4 (by have:=HKO.out.2.1; simp; omega)
   have e : [(a,p)] ++ ats ++ [(b,q)] = (a,p) :: (ats ++ [(b,q)]):=by simp
   rw [e] at h
   exact h
  clear hb4 ho4 HRUN2 HW3 HZ2 HZ3 HZ4 HB2 HPP HBC xf0 xf1 xf2 xf3 xf4 xf5 xf6 xf7 xf8 xf9 xf10 xf11 xf12 xf13 xf14 xf15 xf16 xf17 xf18 xf19
  obtain ⟨xf0,xf1,xf2,xf3,xf4,xf5,xf6,xf7,xf8,xf9,xf10,xf11,xf12,xf13,xf14,xf15,xf16,xf17,xf18,xf19⟩:=HF.out w4 HB4.out
  by_cases k1 : k = 1
  ·subst k1
   rw [if_pos rfl] at HRT
   obtain ⟨f,hf⟩:=List.length_eq_one_iff.1 (kk_one HKK.out rfl)
   subst hf
   obtain rfl : 1 = il:=HIL.out
   obtain ⟨fb,fo,fk,fs,fa,fl,fc,rfl,hflt,g0,g1,g2,hfrep⟩:=(HENV.out w4 HB4.out).2.2.1.at 0 (by simp)
   rw [Nat.zero_mul,Nat.add_zero] at g0 g1 g2
   have HF5 : Hid (∀ W,Below w4.heap.size w4 W → W.cell? ⟨w.heap.size,0,none⟩ = some (.int .u8 1) ∧ W.cell? ⟨w.heap.size,1,none⟩ = some (.slice (some ⟨fb,fo,none⟩) 1 c1) ∧ W.cell? ⟨w.heap.size,2,none⟩ = some (.slice a2 ol c2) ∧ W.cell? ⟨w.heap.size,3,none⟩ = some (.int .i64 lo) ∧ W.cell? ⟨w.heap.size,4,none⟩ = some (.bool ls) ∧ W.cell? ⟨w.heap.size,5,none⟩ = some (.int .i64 hi) ∧ W.cell? ⟨w.heap.size,6,none⟩ = some (.bool hs) ∧ W.cell? ⟨w.heap.size,7,none⟩ = some (.bool op) ∧ W.cell? ⟨w.heap.size + 1,0,none⟩ = some (.int .i64 a) ∧ W.cell? ⟨w.heap.size + 1,1,none⟩ = some (.int .i64 p) ∧ W.cell? ⟨w.heap.size + 1 + 1,0,none⟩ = some (.int .i64 b) ∧ W.cell? ⟨w.heap.size + 1 + 1,1,none⟩ = some (.int .i64 q) ∧ W.cell? ⟨w.heap.size + 1 + 1 + 1,0,none⟩ = some (.int .u8 wk) ∧ W.cell? ⟨w.heap.size + 1 + 1 + 1,1,none⟩ = some (.int .u8 sd) ∧ W.cell? ⟨w.heap.size + 1 + 1 + 1,2,none⟩ = some (.slice a3 l3 c3) ∧ W.cell? ⟨w.heap.size + 1 + 1 + 1,3,none⟩ = some (.slice a4 l4 c4) ∧ w.heap.size < W.heap.size ∧ w.heap.size + 1 < W.heap.size ∧ w.heap.size + 1 + 1 < W.heap.size ∧ w.heap.size + 1 + 1 + 1 < W.heap.size ∧ W.cell? ⟨fb,fo,none⟩ = some (.int .u8 fk) ∧ W.cell? ⟨fb,fo + 1,none⟩ = some (.string fs) ∧ W.cell? ⟨fb,fo + 2,none⟩ = some (.slice fa fl fc) ∧ fb < W.heap.size):=fun W hW => by
    obtain ⟨xf0,xf1,xf2,xf3,xf4,xf5,xf6,xf7,xf8,xf9,xf10,xf11,xf12,xf13,xf14,xf15,xf16,xf17,xf18,xf19⟩:=HF.out W (belS HB4.out hW)
    exact ⟨xf0,xf1,xf2,xf3,xf4,xf5,xf6,xf7,xf8,xf9,xf10,xf11,xf12,xf13,xf14,xf15,xf16,xf17,xf18,xf19,(hW.cell (p:=⟨fb,_,none⟩) hflt).trans g0,(hW.cell (p:=⟨fb,_,none⟩) hflt).trans g1,(hW.cell (p:=⟨fb,_,none⟩) hflt).trans g2,Nat.lt_of_lt_of_le hflt hW.size⟩
   have HAT : Hid (∀ W,Below w4.heap.size w4 W → Calls Tryz.prog 112 #[nv,.agg #[.int .u8 fk,.string fs,.slice fa fl fc],.slice la l.length lc,.agg #[.int .i64 a,.int .i64 p],.agg #[.int .i64 b,.int .i64 q]] W fun e w' => e = .returned (.bool R) ∧ Below W.heap.size W w'):=fun W hW => by
    obtain ⟨_,hn5,hl5⟩:=(HENV.out W (belS HB4.out hW)).1
    have hff:=HF1.out f (by simp)
    have hRv : R = z5x (z0b names m f) l (a,p) (b,q):=by
     rw [HRT.out]
     show z5x (z09 names m (toF m f)) l (a,p) (b,q) = _
     rw [holdE_at]
     exact atomD_congr fun s hs => hold_same hff.1 (HON.out s hs)
    rw [hRv]
    exact atom112_any names nv HL8.out f _ _ l a p b q W hn5 (hfrep.up hW hW.size) hl5 hff.2.1 hff.2.2 HSU.out HLE.out HT.out HU.out HIA.out HIB.out
   clear g0 g1 g2 hfrep hflt HRT xf0 xf1 xf2 xf3 xf4 xf5 xf6 xf7 xf8 xf9 xf10 xf11 xf12 xf13 xf14 xf15 xf16 xf17 xf18 xf19
   obtain ⟨xf0,xf1,xf2,xf3,xf4,xf5,xf6,xf7,xf8,xf9,xf10,xf11,xf12,xf13,xf14,xf15,xf16,xf17,xf18,xf19,fg0,fg1,fg2,fg3⟩:=HF5.out w4 (Below.refl _ _)
   go_upto_region 27 with fail
   clear xf0 xf1 xf2 xf3 xf4 xf5 xf6 xf7 xf8 xf9 xf10 xf11 xf12 xf13 xf14 xf15 xf16 xf17 xf18 xf19 fg0 fg1 fg2 fg3
   refine wrd (by kernel_rfl) HF5.out ((Below.refl w4.heap.size w4).drew) (fun hHeld => ?_)
   refine z00 (f:=2) (by kernel_rfl) (by assumption) [(0,true),(1,true),(2,true),(3,true),(4,true),(5,true),(6,true),(7,true)] rfl (by kernel_rfl) ?_
   repeat (refine SeqH.take (v:=?_) rfl (fun _ _ _ h => h) (by kernel_rfl) ?_ ?_; rotate_left; (· (intro w hSw; (try dsimp only at hSw); go_simp) <;> with_reducible rfl); (try simp only [Act.put,J1,J2,J3,J4,J5,J6]))
   refine SeqH.nil ?_
   refine Jr (rs:=[8]) (by kernel_rfl) (by simp) ?_
   refine Jd rfl (fun K hK => ?_) Je
   go_simp
   go_at_call 112
   refine (HAT.out _ (Below.refl w4.heap.size w4).drew).mono ?_
   rintro e wf ⟨rfl,hbf⟩
   have HBf : Hid (Below w4.heap.size w4 wf):=belS ((Below.refl w4.heap.size w4).drew) hbf
   clear hbf
   try dsimp only
   refine hK.out _ _ (HF5.out _ HBf.out) (fun hHeld => ?_)
   clear hK K
   try simp only [Act.put,J1,J2,J3,J4,J5,J6]
   refine z00 (f:=0) (by kernel_rfl) (by assumption) [(9,true)] rfl (by kernel_rfl) ?_
   repeat (refine SeqH.take (v:=?_) rfl (fun _ _ _ h => h) (by kernel_rfl) ?_ ?_; rotate_left; (· (intro w hSw; (try dsimp only at hSw); go_simp) <;> with_reducible rfl); (try simp only [Act.put,J1,J2,J3,J4,J5,J6]))
   refine SeqH.nil ?_
   refine wpAnyH_done (by kernel_rfl) ?_ _
   clear hHeld
   go_wp2_with fail
   all_goals go_ret
   all_goals exact ⟨rfl,HBB.out.trans ((HB4.out.trans (HBf.out.mono HB4.out.size)).mono HBB.out.size)⟩
  ·rw [if_neg k1] at HRT
   have e1 : (k == 1) = false:=by simpa using k1
   obtain ⟨pre,hpre⟩ : ∃ z,(!(decide (ats ≠ []) && !z23 ((a,p) :: (ats ++ [(b,q)]))) && !(decide (k = 6) && !z2k (a,p) (b,q) ⟨lo,ls,hi,hs,op⟩)) = z:=⟨_,rfl⟩
   rw [hpre] at HRT
   have HPR:=Jh hpre
   clear hpre
   go_upto_region 28 with fail
   go_cut [140] from 121 (fun sv wx => sv = .bool (!pre) ∧ Hid (Below w4.heap.size w4 wx))
   case first =>
    by_cases ha : ats = []
    ·have htm0 : tm = 0:=by rw [← HG4.out,← HL3.out,ha]; rfl
     subst htm0
     by_cases k6 : k = 6
     ·obtain ⟨hlo,hhi⟩ : (0 ≤ lo ∧ lo < 288230376151711744) ∧ (0 ≤ hi ∧ hi < 288230376151711744):=by
       exact kk_six HKK.out k6
      obtain ⟨rz,hrz⟩ : ∃ z,z2k (a,p) (b,q) ⟨lo,ls,hi,hs,op⟩ = z:=⟨_,rfl⟩
      have HC:=fun W => Jh (lasts114_any a p b q lo hi ls hs op W HT.out HU.out HIA.out HIB.out hlo hhi)
      rw [hrz] at HC
      have HPV : pre = rz:=by rw [← HPR.out,ha,k6,hrz]; simp
      clear HPR HRT
      have hpv:=HPV.symm
      clear HPV
      subst hpv
      subst k6
      clear hlo hhi hrz ha
      go_upto_region 40 with fail
      refine (HC _).out.mono ?_
      rintro e w5 ⟨rfl,hb5⟩
      have HB5:=Jh hb5
      clear hb5 xf0 xf1 xf2 xf3 xf4 xf5 xf6 xf7 xf8 xf9 xf10 xf11 xf12 xf13 xf14 xf15 xf16 xf17 xf18 xf19
      cases rz
      ·go_wp2_with fail
       go_meet
       exact ⟨rfl,HB5⟩
      ·go_wp2_with fail
       go_meet
       exact ⟨rfl,HB5⟩
     ·have e6 : (k == 6) = false:=by simpa using k6
      have HPV : pre = true:=by rw [← HPR.out,ha]; simp [k6]
      clear HPR HRT ha
      subst HPV
      go_wp2_with fail
      go_meet
      exact ⟨rfl,Below.refl _ _⟩
    ·have htm0 : 0 < tm:=by
      have : 0 < ats.length:=List.length_pos_iff.2 ha
      have:=HG4.out
      have:=HL3.out
      omega
     have k6 : ¬ k = 6:=by
      intro h
      have:=HTM.out
      rw [if_neg (by omega)] at this
      omega
     have e6 : (k == 6) = false:=by simpa using k6
     have HC:=Jh (rise113_any v4 _ w4 HRW.out (by
      intro s hs
      simp only [List.mem_cons,List.mem_append,List.not_mem_nil,or_false] at hs
      rcases hs with rfl | hs | rfl
      ·exact HIA.out
      ·exact HKO.out.1 s hs
      ·exact HIB.out) (by have:=HKO.out.2.1; simp; omega))
     obtain ⟨rz,hrz⟩ : ∃ z,z23 ((a,p) :: (ats ++ [(b,q)])) = z:=⟨_,rfl⟩
     rw [hrz] at HC
     have HPV : pre = rz:=by rw [← HPR.out,hrz]; simp [ha,k6]
     clear HPR HRT
     have hpv:=HPV.symm
     clear HPV
     subst hpv
     clear hrz ha k6
     go_upto_region 40 with fail
     refine HC.out.mono ?_
     rintro e w5 ⟨rfl,hb5⟩
     have HB5:=Jh hb5
     clear hb5 xf0 xf1 xf2 xf3 xf4 xf5 xf6 xf7 xf8 xf9 xf10 xf11 xf12 xf13 xf14 xf15 xf16 xf17 xf18 xf19
     obtain ⟨xf0,xf1,xf2,xf3,xf4,xf5,xf6,xf7,xf8,xf9,xf10,xf11,xf12,xf13,xf14,xf15,xf16,xf17,xf18,xf19⟩:=HF.out w5 (belS HB4.out HB5.out)
     cases rz
     ·go_wp2_with fail
      go_meet
      exact ⟨rfl,HB5⟩
     ·go_wp2_with fail
      go_meet
      exact ⟨rfl,HB5⟩
   obtain ⟨rfl,HB5⟩:=hcut
   obtain ⟨w5,hw5⟩ : ∃ w5,w5 = wc:=⟨_,rfl⟩
   rw [← hw5] at HB5 ⊢
   clear hw5 xf0 xf1 xf2 xf3 xf4 xf5 xf6 xf7 xf8 xf9 xf10 xf11 xf12 xf13 xf14 xf15 xf16 xf17 xf18 xf19
   have HW5 : Hid (Below WB.heap.size WB w5):=belS HB4.out HB5.out
   cases pre with
   | false =>
    have HE : Hid (R = false):=by rw [Hid,HRT.out]; rfl
    clear HRT HPR
    obtain ⟨xf0,xf1,xf2,xf3,xf4,xf5,xf6,xf7,xf8,xf9,xf10,xf11,xf12,xf13,xf14,xf15,xf16,xf17,xf18,xf19⟩:=HF.out w5 HW5.out
    go_wp2_with fail
    all_goals go_ret
    all_goals exact ⟨by rw [HE.out]; rfl,HBB.out.trans (HW5.out.mono HBB.out.size)⟩
   | true =>
    rw [Bool.true_and] at HRT
    have HTMS : Hid (∀ j,j < l4 → (decide (ats ≠ []) = true → j + 1 < ((a,p) :: (ats ++ [(b,q)])).length) ∧ ∀ t u,(if decide (ats ≠ []) then ((a,p) :: (ats ++ [(b,q)])).getD j (a,p) else (a,p)) = t → (if decide (ats ≠ []) then ((a,p) :: (ats ++ [(b,q)])).getD (j + 1) (b,q) else (b,q)) = u → (mayP t = true ∧ in64 t.1) ∧ mayP u = true ∧ in64 u.1):=fun j hj => times_may HT.out HU.out HIA.out HIB.out HKO.out.1 HL3.out HG4.out HTM.out HPR.out hj
    have HTP : Hid (decide (0 < tm) = decide (ats ≠ [])):=times_pos HL3.out HG4.out
    have HRL : Hid (((a,p) :: (ats ++ [(b,q)])).length ≤ 100002):=by have:=HKO.out.2.1; show _ ≤ _; simp; omega
    obtain ⟨B1,hB1⟩ : ∃ B1,decide (ats ≠ []) = B1:=⟨_,rfl⟩
    obtain ⟨row,hrow⟩ : ∃ row,(a,p) :: (ats ++ [(b,q)]) = row:=⟨_,rfl⟩
    rw [hB1,hrow] at HTMS HRT
    rw [hB1] at HTP
    rw [hrow] at HRW HRL
    obtain ⟨ra,rc,hv4,hrm,_⟩:=id HRW.out
    subst hv4
    obtain ⟨rl,hrl⟩ : ∃ z,row.length = z:=⟨_,rfl⟩
    have HRLN:=Jh hrl
    rw [hrl] at HRW HRL HTMS ⊢
    clear hrl hrm hB1 hrow HPR
    have HRT0 : Hid (R = allK (z0q (z09 names m) l n) B1 (a,p) (b,q) row (ps.map (toX d)) of 0 (of.length - 0)):=HRT
    clear HRT
    go_wp2_with fail
    go_loopw [19] (fun iv wr => ∃ j : Nat,j ≤ l4 ∧ iv = .int .i64 j ∧ Hid (R = allK (z0q (z09 names m) l n) B1 (a,p) (b,q) row (ps.map (toX d)) of j (of.length - j)) ∧ Hid (Below w5.heap.size w5 wr)) (fun iv _ => l4 - (intOf iv).toNat)
    case atStart => exact ⟨0,Nat.zero_le _,rfl,HRT0,Below.refl _ _⟩
    case round =>
     obtain ⟨j,hj,rfl,HRJ,HBR⟩:=hrel
     have HBW : Hid (Below WB.heap.size WB wr):=belS HW5.out HBR.out
     have HB4r : Hid (Below w4.heap.size w4 wr):=belS HB5.out HBR.out
     obtain ⟨xf0,xf1,xf2,xf3,xf4,xf5,xf6,xf7,xf8,xf9,xf10,xf11,xf12,xf13,xf14,xf15,xf16,xf17,xf18,xf19⟩:=HF.out wr HBW.out
     by_cases hlt : j < l4
     rotate_left
     ·have HE : Hid (R = true):=by
       have hj4 : j = of.length:=by have:=HL4.out; omega
       rw [Hid,HRJ.out,hj4,Nat.sub_self]; rfl
      have hji : ¬ ((j : Int) < (l4 : Int)):=by omega
      clear HRJ HRT0
      go_wp2_with fail
      all_goals go_ret
      all_goals exact ⟨by rw [HE.out]; rfl,HBB.out.trans (HBW.out.mono HBB.out.size)⟩
     ·have hjo : j < of.length:=by rw [HL4.out]; exact hlt
      have hjp : j < ps.length:=by rw [HPN.out,← HG3.out]; exact hlt
      obtain ⟨hln,hmt⟩:=HTMS.out j hlt
      obtain ⟨⟨fa,fp⟩,hfr⟩ : ∃ z,(if B1 then row.getD j (a,p) else (a,p)) = z:=⟨_,rfl⟩
      obtain ⟨⟨ta,tp⟩,hto⟩ : ∃ z,(if B1 then row.getD (j + 1) (b,q) else (b,q)) = z:=⟨_,rfl⟩
      have HMT:=Jh (hmt _ _ hfr hto)
      obtain ⟨xj,hxj⟩ : ∃ z,ps[j] = z:=⟨_,rfl⟩
      obtain ⟨yj,hyj⟩ : ∃ z,of[j] = z:=⟨_,rfl⟩
      have HRN : Hid (R = (z0q (z09 names m) l n (toX d xj) (fa,fp) (ta,tp) yj && allK (z0q (z09 names m) l n) B1 (a,p) (b,q) row (ps.map (toX d)) of (j + 1) (of.length - (j + 1)))):=by
       rw [Hid,HRJ.out,allK_step (by rw [List.length_map]; exact hjp) hjo,hfr,hto,hyj,List.getElem_map,hxj]
      have HKY : Hid (okT n yj ∧ rngS n yj):=by rw [← hyj]; exact ⟨HKO.out.2.2 _ (List.getElem_mem hjo),HSG.out.2 _ (List.getElem_mem hjo)⟩
      obtain ⟨pg,po,vs,hpa,hpg,hv8,hcs,hrest⟩:=(HP4.out.up HB4r.out) j hjp
      rw [hxj] at hrest
      subst hpa
      obtain ⟨z0,z1,z2,z3,z4,z5,z6,z7,rfl⟩:=list_eight hv8
      obtain ⟨yk,ya,yn,yc,yb,ym,ye,ylo,yls,yhi,yhs,yop,hye⟩:=hrest.1.shape
      simp only [Value.agg.injEq,Array.mk.injEq,List.cons.injEq,and_true] at hye
      obtain ⟨rfl,rfl,rfl,rfl,rfl,rfl,rfl,rfl⟩:=hye
      have HXJ : Hid (XRep wr wr.heap.size m d xj (.agg #[.int .u8 yk,.slice ya yn yc,.slice yb ym ye,.int .i64 ylo,.bool yls,.int .i64 yhi,.bool yhs,.bool yop]) ∧ CapX wr wr.heap.size d (.agg #[.int .u8 yk,.slice ya yn yc,.slice yb ym ye,.int .i64 ylo,.bool yls,.int .i64 yhi,.bool yhs,.bool yop]) ∧ allX z02 d xj = true ∧ allX z11 d xj = true ∧ fineX names d xj):=hrest
      obtain ⟨eb,eo,ek,es,ea,el,ec,ed,em,ee,hea,elt,ef0,ef1,ef2,ef3,her⟩:=(HENV.out wr HBW.out).2.2.2.2.at j hjo
      subst hea
      have HYR : Hid (PRep wr wr.heap.size n yj (.agg #[.int .u8 ek,.int .u8 es,.slice ea el ec,.slice ed em ee])):=by rw [Hid,← hyj]; exact her
      have HFX : Hid (∀ W,Below wr.heap.size wr W → W.cell? ⟨pg,po + j * 8,none⟩ = some (.int .u8 yk) ∧ W.cell? ⟨pg,po + j * 8 + 1,none⟩ = some (.slice ya yn yc) ∧ W.cell? ⟨pg,po + j * 8 + 2,none⟩ = some (.slice yb ym ye) ∧ W.cell? ⟨pg,po + j * 8 + 3,none⟩ = some (.int .i64 ylo) ∧ W.cell? ⟨pg,po + j * 8 + 4,none⟩ = some (.bool yls) ∧ W.cell? ⟨pg,po + j * 8 + 5,none⟩ = some (.int .i64 yhi) ∧ W.cell? ⟨pg,po + j * 8 + 6,none⟩ = some (.bool yhs) ∧ W.cell? ⟨pg,po + j * 8 + 7,none⟩ = some (.bool yop) ∧ pg < W.heap.size ∧ W.cell? ⟨eb,eo + j * 4,none⟩ = some (.int .u8 ek) ∧ W.cell? ⟨eb,eo + j * 4 + 1,none⟩ = some (.int .u8 es) ∧ W.cell? ⟨eb,eo + j * 4 + 2,none⟩ = some (.slice ea el ec) ∧ W.cell? ⟨eb,eo + j * 4 + 3,none⟩ = some (.slice ed em ee) ∧ eb < W.heap.size):=fun W hW =>
       ⟨(hW.cell (p:=⟨pg,_,none⟩) hpg).trans (hcs 0 (by decide)),(hW.cell (p:=⟨pg,_,none⟩) hpg).trans (hcs 1 (by decide)),(hW.cell (p:=⟨pg,_,none⟩) hpg).trans (hcs 2 (by decide)),(hW.cell (p:=⟨pg,_,none⟩) hpg).trans (hcs 3 (by decide)),(hW.cell (p:=⟨pg,_,none⟩) hpg).trans (hcs 4 (by decide)),(hW.cell (p:=⟨pg,_,none⟩) hpg).trans (hcs 5 (by decide)),(hW.cell (p:=⟨pg,_,none⟩) hpg).trans (hcs 6 (by decide)),(hW.cell (p:=⟨pg,_,none⟩) hpg).trans (hcs 7 (by decide)),Nat.lt_of_lt_of_le hpg hW.size,(hW.cell (p:=⟨eb,_,none⟩) elt).trans ef0,(hW.cell (p:=⟨eb,_,none⟩) elt).trans ef1,(hW.cell (p:=⟨eb,_,none⟩) elt).trans ef2,(hW.cell (p:=⟨eb,_,none⟩) elt).trans ef3,Nat.lt_of_lt_of_le elt hW.size⟩
      have HLT:=Jh hlt
      have hji : (j : Int) < (l4 : Int):=by omega
      have hjq : (j : Int) < (pn : Int):=by have:=HG3.out; omega
      have hj0 : (0 : Int) ≤ (j : Int):=by omega
      have vz : IntKind.i64.wrap ((j : Int) + 1) = (j : Int) + 1:=IntWalk.i64_in _ (by have:=HFW.out; omega)
      have vz' : wrap64 ((j : Int) + 1) = (j : Int) + 1:=IntWalk.wrap64_in _ (by have:=HFW.out; omega)
      have HLN:=Jh hln
      have HFR:=Jh hfr
      have HTO:=Jh hto
      obtain ⟨W5,hW5⟩ : ∃ W5,W5 = (wr.alloc (.cells #[.int .i64 a,.int .i64 p] 50)).alloc (.cells #[.int .i64 b,.int .i64 q] 50):=⟨_,rfl⟩
      have hb5 : Below wr.heap.size wr W5:=by rw [hW5]; exact (z0c _ _).alloc (by simp) _
      have hx5 : W5.heap[wr.heap.size]? = some (.cells #[.int .i64 a,.int .i64 p] 50 (0,0)):=by rw [hW5]; exact (Jb _ _ _ (by simp)).trans (z03 rfl)
      have hx6 : W5.heap[wr.heap.size + 1]? = some (.cells #[.int .i64 b,.int .i64 q] 50 (0,0)):=by rw [hW5]; exact z03 (by simp)
      have HXB:=Jh (And.intro hx5 (And.intro hx6 hb5))
      have HA5:=Jh hW5.symm
      clear hW5 hb5 hx5 hx6 hmt hln hfr hto hxj hyj hrest her hcs hpg hv8 ef0 ef1 ef2 ef3 elt hj HRJ hjo hjp hlt
      go_upto_if 149 with fail
      rw [HA5.out]
      clear HA5 xf0 xf1 xf2 xf3 xf4 xf5 xf6 xf7 xf8 xf9 xf10 xf11 xf12 xf13 xf14 xf15 xf16 xf17 xf18 xf19
      rw [HTP.out]
      go_cut [149] from 141 to 158 (fun _ wx => Hid (wx.heap[wr.heap.size]? = some (.cells #[.int .i64 fa,.int .i64 fp] 50 (0,0)) ∧ wx.heap[wr.heap.size + 1]? = some (.cells #[.int .i64 ta,.int .i64 tp] 50 (0,0)) ∧ Below wr.heap.size wr wx))
      case first =>
       cases B1 with
       | false =>
        have e1 : (a,p) = (fa,fp):=HFR.out
        have e2 : (b,q) = (ta,tp):=HTO.out
        injection e1 with e1 e1'
        injection e2 with e2 e2'
        subst e1 e1' e2 e2'
        go_wp2_with fail
        go_meet
        exact HXB
       | true =>
        have hln:=HLN.out rfl
        have hr1 : j < row.length:=by rw [HRLN.out]; omega
        have hr2 : j + 1 < row.length:=by rw [HRLN.out]; exact hln
        have e1 : row[j] = (fa,fp):=by have h:=HFR.out; rw [if_pos rfl,List.getD_eq_getElem?_getD,List.getElem?_eq_getElem hr1] at h; exact h
        have e2 : row[j + 1] = (ta,tp):=by have h:=HTO.out; rw [if_pos rfl,List.getD_eq_getElem?_getD,List.getElem?_eq_getElem hr2] at h; exact h
        have hb45 : Below w4.heap.size w4 W5:=belS HB4r.out HXB.out.2.2
        obtain ⟨rb,ro,hra,rlt,rf0,rf1⟩:=rats_at HRW.out j hr1
        obtain ⟨rb',ro',hra',_,rg0,rg1⟩:=rats_at HRW.out (j + 1) hr2
        rw [hra] at hra'
        simp only [Option.some.injEq,Addr.mk.injEq,and_true] at hra'
        obtain ⟨rfl,rfl⟩:=hra'
        subst hra
        rw [e1] at rf0 rf1
        rw [e2] at rg0 rg1
        obtain ⟨hx5,hx6,hb5⟩:=HXB.out
        have q0:=(hb45.cell (p:=⟨rb,_,none⟩) rlt).trans rf0
        have q1:=(hb45.cell (p:=⟨rb,_,none⟩) rlt).trans rf1
        have ql : rb < W5.heap.size:=Nat.lt_of_lt_of_le rlt hb45.size
        have p0:=Jc hx5 0
        have p1:=Jc hx5 1
        simp only [J9,J7,J8] at p0 p1
        have p2:=Jf hx5 0
        have p3:=Jf hx5 1
        have p4:=(Array.getElem?_eq_some_iff.1 hx5).1
        obtain ⟨W7,hW7⟩ : ∃ W7,W7 = set2 W5 wr.heap.size (.int .i64 fa) (.int .i64 fp):=⟨_,rfl⟩
        have hb7 : Below wr.heap.size wr W7:=by rw [hW7]; exact z56 hb5 (Nat.le_refl _) _ _
        have hx7 : W7.heap[wr.heap.size]? = some (.cells #[.int .i64 fa,.int .i64 fp] 50 (0,0)):=by rw [hW7]; exact z57 hx5 _ _
        have hx8 : W7.heap[wr.heap.size + 1]? = some (.cells #[.int .i64 b,.int .i64 q] 50 (0,0)):=by rw [hW7]; exact (z3i _ _ _ _ _ (by omega)).trans hx6
        have HX7:=Jh (And.intro hx7 (And.intro hx8 (And.intro hb7 (And.intro rg0 (And.intro rg1 rlt)))))
        unfold set2 at hW7
        have HA7:=Jh hW7.symm
        have hri : (j : Int) < (rl : Int):=by omega
        have hri2 : (j : Int) + 1 < (rl : Int):=by omega
        have hri0 : (0 : Int) ≤ (j : Int) + 1:=by omega
        have hrn : ((j : Int) + 1).toNat = j + 1:=by omega
        clear hW7 hx5 hx6 hb5 hx7 hx8 hb7 rf0 rf1 rg0 rg1 rlt hb45 e1 e2 hr1 hr2 hln
        go_upto_region 37 with fail
        rw [HA7.out]
        clear HA7 p0 p1 p2 p3 p4 q0 q1 ql
        obtain ⟨hx7,hx8,hb7,rg0,rg1,rlt⟩:=HX7.out
        have hb47 : Below w4.heap.size w4 W7:=belS HB4r.out hb7
        have q0:=(hb47.cell (p:=⟨rb,_,none⟩) rlt).trans rg0
        have q1:=(hb47.cell (p:=⟨rb,_,none⟩) rlt).trans rg1
        have ql : rb < W7.heap.size:=Nat.lt_of_lt_of_le rlt hb47.size
        have p0:=Jc hx8 0
        have p1:=Jc hx8 1
        simp only [J9,J7,J8] at p0 p1
        have p2:=Jf hx8 0
        have p3:=Jf hx8 1
        have p4:=(Array.getElem?_eq_some_iff.1 hx8).1
        have HFIN : Hid ((set2 W7 (wr.heap.size + 1) (.int .i64 ta) (.int .i64 tp)).heap[wr.heap.size]? = some (.cells #[.int .i64 fa,.int .i64 fp] 50 (0,0)) ∧ (set2 W7 (wr.heap.size + 1) (.int .i64 ta) (.int .i64 tp)).heap[wr.heap.size + 1]? = some (.cells #[.int .i64 ta,.int .i64 tp] 50 (0,0)) ∧ Below wr.heap.size wr (set2 W7 (wr.heap.size + 1) (.int .i64 ta) (.int .i64 tp))) :=
         ⟨(z3i _ _ _ _ _ (by omega)).trans hx7,z57 hx8 _ _,z56 hb7 (by omega) _ _⟩
        clear hx7 hx8 hb7 rg0 rg1 rlt hb47
        go_wp2_with fail
        go_meet
        exact HFIN
      obtain ⟨w7,hw7⟩ : ∃ w7,w7 = wc:=⟨_,rfl⟩
      rw [← hw7] at hcut ⊢
      clear hw7
      have HBK : Hid (∀ W,Below w7.heap.size w7 W → Below wr.heap.size wr W):=fun W hW => belS hcut.out.2.2 hW
      have HF9 : Hid (∀ W,Below w7.heap.size w7 W → W.cell? ⟨wr.heap.size,0,none⟩ = some (.int .i64 fa) ∧ W.cell? ⟨wr.heap.size,1,none⟩ = some (.int .i64 fp) ∧ wr.heap.size < W.heap.size ∧ W.cell? ⟨wr.heap.size + 1,0,none⟩ = some (.int .i64 ta) ∧ W.cell? ⟨wr.heap.size + 1,1,none⟩ = some (.int .i64 tp) ∧ wr.heap.size + 1 < W.heap.size ∧ W.cell? ⟨pg,po + j * 8,none⟩ = some (.int .u8 yk) ∧ W.cell? ⟨pg,po + j * 8 + 1,none⟩ = some (.slice ya yn yc) ∧ W.cell? ⟨pg,po + j * 8 + 2,none⟩ = some (.slice yb ym ye) ∧ W.cell? ⟨pg,po + j * 8 + 3,none⟩ = some (.int .i64 ylo) ∧ W.cell? ⟨pg,po + j * 8 + 4,none⟩ = some (.bool yls) ∧ W.cell? ⟨pg,po + j * 8 + 5,none⟩ = some (.int .i64 yhi) ∧ W.cell? ⟨pg,po + j * 8 + 6,none⟩ = some (.bool yhs) ∧ W.cell? ⟨pg,po + j * 8 + 7,none⟩ = some (.bool yop) ∧ pg < W.heap.size ∧ W.cell? ⟨w.heap.size + 1 + 1 + 1,3,none⟩ = some (.slice (some ⟨eb,eo,none⟩) l4 c4) ∧ w.heap.size + 1 + 1 + 1 < W.heap.size ∧ W.cell? ⟨eb,eo + j * 4,none⟩ = some (.int .u8 ek) ∧ W.cell? ⟨eb,eo + j * 4 + 1,none⟩ = some (.int .u8 es) ∧ W.cell? ⟨eb,eo + j * 4 + 2,none⟩ = some (.slice ea el ec) ∧ W.cell? ⟨eb,eo + j * 4 + 3,none⟩ = some (.slice ed em ee) ∧ eb < W.heap.size):=fun W hW => by
       obtain ⟨k1,k2,_⟩:=hcut.out
       have k1:=(hW.block _ (Array.getElem?_eq_some_iff.1 k1).1).trans k1
       have k2:=(hW.block _ (Array.getElem?_eq_some_iff.1 k2).1).trans k2
       obtain ⟨y0,y1,y2,y3,y4,y5,y6,y7,y8,y9,y10,y11,y12,y13⟩:=HFX.out W (HBK.out W hW)
       obtain ⟨xf0,xf1,xf2,xf3,xf4,xf5,xf6,xf7,xf8,xf9,xf10,xf11,xf12,xf13,xf14,xf15,xf16,xf17,xf18,xf19⟩:=HF.out W (belS HBW.out (HBK.out W hW))
       exact ⟨Jc k1 0,Jc k1 1,(Array.getElem?_eq_some_iff.1 k1).1,Jc k2 0,Jc k2 1,(Array.getElem?_eq_some_iff.1 k2).1,y0,y1,y2,y3,y4,y5,y6,y7,y8,xf15,xf19,y9,y10,y11,y12,y13⟩
      have HSH : Hid (∀ W,Below w7.heap.size w7 W → Calls Tryz.prog 58 #[nv,.agg #[.int .u8 yk,.slice ya yn yc,.slice yb ym ye,.int .i64 ylo,.bool yls,.int .i64 yhi,.bool yhs,.bool yop],.slice la l.length lc,.agg #[.int .i64 fa,.int .i64 fp],.agg #[.int .i64 ta,.int .i64 tp],.agg #[.int .u8 ek,.int .u8 es,.slice ea el ec,.slice ed em ee]] W fun e w' => e = .returned (.bool (z0q (z09 names m) l n (toX d xj) (fa,fp) (ta,tp) yj)) ∧ Below W.heap.size W w'):=fun W hW =>
       HIH.out d xj _ fa fp ta tp yj _ W (HENV.out W (belS HBW.out (HBK.out W hW))).1 (HXJ.out.1.up (HBK.out W hW) (HBK.out W hW).size) (HXJ.out.2.1.up (HBK.out W hW) (HBK.out W hW).size) HXJ.out.2.2.1 HXJ.out.2.2.2.1 HXJ.out.2.2.2.2 (PRep.up (HBK.out W hW) (HBK.out W hW).size HYR.out) HKY.out.1 HKY.out.2 HMT.out.1.1 HMT.out.2.1 HMT.out.1.2 HMT.out.2.2
      obtain ⟨r0,hr0⟩ : ∃ z,z0q (z09 names m) l n (toX d xj) (fa,fp) (ta,tp) yj = z:=⟨_,rfl⟩
      rw [hr0] at HSH HRN
      clear hr0
      go_upto_region 38 with fail
      refine wrd (by kernel_rfl) HF9.out ((Below.refl w7.heap.size w7).drew) (fun hHeld => ?_)
      refine z00 (f:=2) (by kernel_rfl) (by assumption) [(0,true),(1,true),(2,true),(3,true),(4,true),(5,true),(6,true),(7,true),(8,true),(9,true),(10,true),(11,true),(12,true)] rfl (by kernel_rfl) ?_
      repeat (refine SeqH.take (v:=?_) rfl (fun _ _ _ h => h) (by kernel_rfl) ?_ ?_; rotate_left; (· (intro w hSw; (try dsimp only at hSw); go_simp) <;> with_reducible rfl); (try simp only [Act.put,J1,J2,J3,J4,J5,J6]))
      refine SeqH.nil ?_
      refine Jr (rs:=[13]) (by kernel_rfl) (by simp) ?_
      refine Jd rfl (fun K hK => ?_) Je
      go_simp
      go_at_call 58
      refine (HSH.out _ ((Below.refl w7.heap.size w7).drew)).mono ?_
      rintro e wd ⟨rfl,hbd⟩
      have HBd : Hid (Below w7.heap.size w7 wd):=belS ((Below.refl w7.heap.size w7).drew) hbd
      clear hbd
      try dsimp only
      refine hK.out _ _ (HF9.out _ HBd.out) (fun hHeld => ?_)
      clear hK K
      try simp only [Act.put,J1,J2,J3,J4,J5,J6]
      refine z00 (f:=0) (by kernel_rfl) (by assumption) [(14,true)] rfl (by kernel_rfl) ?_
      repeat (refine SeqH.take (v:=?_) rfl (fun _ _ _ h => h) (by kernel_rfl) ?_ ?_; rotate_left; (· (intro w hSw; (try dsimp only at hSw); go_simp) <;> with_reducible rfl); (try simp only [Act.put,J1,J2,J3,J4,J5,J6]))
      refine SeqH.nil ?_
      refine wpAnyH_done (by kernel_rfl) ?_ _
      clear hHeld
      cases r0 with
      | false =>
       have HE : Hid (R = false):=by rw [Hid,HRN.out]; rfl
       clear HRN
       go_wp2_with fail
       all_goals go_ret
       all_goals exact ⟨by rw [HE.out]; rfl,HBB.out.trans ((belS HBW.out (HBK.out _ HBd.out)).mono HBB.out.size)⟩
      | true =>
       have HN1 : Hid (R = allK (z0q (z09 names m) l n) B1 (a,p) (b,q) row (ps.map (toX d)) of (j + 1) (of.length - (j + 1))):=by rw [Hid,HRN.out,Bool.true_and]
       have HN2 : Hid (Below w5.heap.size w5 wd):=belS HBR.out (HBK.out _ HBd.out)
       clear HRN
       go_wp2_with fail
       first | exact ⟨⟨j + 1,HLT.out,rfl,HN1,HN2⟩,meas HLT.out⟩ | (go_roundw; (case rel => exact ⟨j + 1,HLT.out,rfl,HN1,HN2⟩); (case measure => exact meas HLT.out))
end Go.Proofs.YtockinpjfhhkoaaGreatDoor
