/- The document's check of a proof: all of it. (Printed by gen_tei.py.) -/
import Derived.Deep.RegionHeld
import Derived.Deep.Cut
import Derived.LoopTactic
import Derived.Test.YtockinpjfhhkoaaGreatDoorZ40
import Derived.Test.YtockinpjfhhkoaaGreatDoorZ46
import Derived.Test.YtockinpjfhhkoaaGreatDoorZ27
import Derived.Test.YtockinpjfhhkoaaGreatDoorZ26
import Derived.Test.YtockinpjfhhkoaaGreatDoorZ48
import Derived.Test.YtockinpjfhhkoaaGreatDoorZ06
import Derived.Test.YtockinpjfhhkoaaGreatDoorZ33
set_option maxRecDepth 100000
set_option maxHeartbeats 16000000
open Go.Lib renaming cell_of_heap → Jc, hid → Jh
open Go.RowKit.Below renaming heap_alloc → Jb
namespace Go.Proofs.YtockinpjfhhkoaaGreatDoor
open Go.RowKit
theorem z6e (names : List ByteArray) (nv : Value) (la : Option Addr) (lc : Nat) (l : List (Int × Int)) (m : Nat) (h8 : names.length ≤ 8) (hsu : SumOk l) (hlen : l.length ≤ 100000) (hon : ∀ s ∈ l,¬ 0 < s.2 / 2 ^ names.length) : ∀ n d,ShowsB names m nv la lc l d n
 | 0,_ => fun _ _ _ _ _ _ _ _ _ _ _ _ _ _ _ hp => hp.elim
 | n + 1,d => shows58_step names nv la lc l m n h8 hsu hlen hon (z6e names nv la lc l m h8 hsu hlen hon n) d
theorem on_small {s N : Int} (h1 : 0 ≤ s) (h2 : s < N) : ¬ 0 < s / N:=by
 rw [Int.ediv_eq_zero_of_lt h1 h2]; decide
theorem docCheck22_any (names : List ByteArray) (nv lv : Value) (hns : ∀ s ∈ names,s.size ≤ 1048576) {m d : Nat} (x : XT m d) (xv : Value) (l : List (Int × Int)) (a p b q : Int) {n : Nat} (t : PT n) (wv : Value) (w : World)
 (hr : Rdy w) (hn : NRep w w.heap.size nv names) (hx : XRep w w.heap.size m d x xv) (hcap : CapX w w.heap.size d xv) (hnx : nX d x ≤ 1000000) (hl : Segs w w.heap.size lv l) (hp : PRep w w.heap.size n t wv) (hok : okT n t) (hsg : rngS n t) (ia : in64 a) (ib : in64 b) :
 Calls Tryz.prog 22 #[nv,xv,lv,.agg #[.int .i64 a,.int .i64 p,.int .i64 b,.int .i64 q],wv] w fun e w' => e = .returned (.tuple #[.bool (z1o names d x l (a,p) (b,q) n t).1,.int .i64 (z1o names d x l (a,p) (b,q) n t).2]) ∧ Below w.heap.size w w':=by
 obtain ⟨k,a1,n1,c1,a2,n2,c2,lo,ls,hi,hs,op,rfl⟩:=hx.shape
 obtain ⟨wk,sd,a3,l3,c3,a4,l4,c4,rfl⟩:=hp.shape
 obtain ⟨na,nc,rfl,_⟩:=id hn
 obtain ⟨la,lc,rfl,_⟩:=id hl
 obtain ⟨WB,hWWB⟩ : ∃ WB,WB = ((w.alloc (.cells #[.int .u8 k,.slice a1 n1 c1,.slice a2 n2 c2,.int .i64 lo,.bool ls,.int .i64 hi,.bool hs,.bool op] 47)).alloc (.cells #[.int .i64 a,.int .i64 p,.int .i64 b,.int .i64 q] 52)).alloc (.cells #[.int .u8 wk,.int .u8 sd,.slice a3 l3 c3,.slice a4 l4 c4] 56):=⟨_,rfl⟩
 have hbWB : Below w.heap.size w WB:=by rw [hWWB]; exact ((z0c _ _).alloc (by simp <;> omega) _).alloc (by simp <;> omega) _
 have hx0 : WB.heap[w.heap.size]? = some (.cells #[.int .u8 k,.slice a1 n1 c1,.slice a2 n2 c2,.int .i64 lo,.bool ls,.int .i64 hi,.bool hs,.bool op] 47 (0,0)):=by rw [hWWB]; exact (Jb _ _ _ (by simp <;> omega)).trans ((Jb _ _ _ (by simp <;> omega)).trans (z03 rfl))
 have hx1 : WB.heap[w.heap.size + 1]? = some (.cells #[.int .i64 a,.int .i64 p,.int .i64 b,.int .i64 q] 52 (0,0)):=by rw [hWWB]; exact (Jb _ _ _ (by simp <;> omega)).trans (z03 (by simp))
 have hx2 : WB.heap[w.heap.size + 1 + 1]? = some (.cells #[.int .u8 wk,.int .u8 sd,.slice a3 l3 c3,.slice a4 l4 c4] 56 (0,0)):=by rw [hWWB]; exact z03 (by simp)
 have HX : Hid (∀ W,Below WB.heap.size WB W → W.heap[w.heap.size]? = some (.cells #[.int .u8 k,.slice a1 n1 c1,.slice a2 n2 c2,.int .i64 lo,.bool ls,.int .i64 hi,.bool hs,.bool op] 47 (0,0)) ∧ W.heap[w.heap.size + 1]? = some (.cells #[.int .i64 a,.int .i64 p,.int .i64 b,.int .i64 q] 52 (0,0)) ∧ W.heap[w.heap.size + 1 + 1]? = some (.cells #[.int .u8 wk,.int .u8 sd,.slice a3 l3 c3,.slice a4 l4 c4] 56 (0,0))):=fun W hW => ⟨(hW.block _ (Array.getElem?_eq_some_iff.1 hx0).1).trans hx0,(hW.block _ (Array.getElem?_eq_some_iff.1 hx1).1).trans hx1,(hW.block _ (Array.getElem?_eq_some_iff.1 hx2).1).trans hx2⟩
 have HF : Hid (∀ W,Below WB.heap.size WB W → W.cell? ⟨w.heap.size,0,none⟩ = some (.int .u8 k) ∧ W.cell? ⟨w.heap.size,1,none⟩ = some (.slice a1 n1 c1) ∧ W.cell? ⟨w.heap.size,2,none⟩ = some (.slice a2 n2 c2) ∧ W.cell? ⟨w.heap.size,3,none⟩ = some (.int .i64 lo) ∧ W.cell? ⟨w.heap.size,4,none⟩ = some (.bool ls) ∧ W.cell? ⟨w.heap.size,5,none⟩ = some (.int .i64 hi) ∧ W.cell? ⟨w.heap.size,6,none⟩ = some (.bool hs) ∧ W.cell? ⟨w.heap.size,7,none⟩ = some (.bool op) ∧ W.cell? ⟨w.heap.size + 1,0,none⟩ = some (.int .i64 a) ∧ W.cell? ⟨w.heap.size + 1,1,none⟩ = some (.int .i64 p) ∧ W.cell? ⟨w.heap.size + 1,2,none⟩ = some (.int .i64 b) ∧ W.cell? ⟨w.heap.size + 1,3,none⟩ = some (.int .i64 q) ∧ W.cell? ⟨w.heap.size + 1 + 1,0,none⟩ = some (.int .u8 wk) ∧ W.cell? ⟨w.heap.size + 1 + 1,1,none⟩ = some (.int .u8 sd) ∧ W.cell? ⟨w.heap.size + 1 + 1,2,none⟩ = some (.slice a3 l3 c3) ∧ W.cell? ⟨w.heap.size + 1 + 1,3,none⟩ = some (.slice a4 l4 c4) ∧ w.heap.size < W.heap.size ∧ w.heap.size + 1 < W.heap.size ∧ w.heap.size + 1 + 1 < W.heap.size):=by
  intro W hW
  obtain ⟨k0,k1,k2⟩:=HX.out W hW
  exact ⟨Jc k0 0,Jc k0 1,Jc k0 2,Jc k0 3,Jc k0 4,Jc k0 5,Jc k0 6,Jc k0 7,Jc k1 0,Jc k1 1,Jc k1 2,Jc k1 3,Jc k2 0,Jc k2 1,Jc k2 2,Jc k2 3,(Array.getElem?_eq_some_iff.1 k0).1,(Array.getElem?_eq_some_iff.1 k1).1,(Array.getElem?_eq_some_iff.1 k2).1⟩
 have HBB:=Jh hbWB
 have HWB:=Jh hWWB.symm
 clear hWWB hbWB hx0 hx1 hx2
 have HBW : Hid (∀ W,Below WB.heap.size WB W → Below w.heap.size w W):=fun W h => HBB.out.trans (h.mono HBB.out.size)
 have HCK : Hid (∀ W,Below WB.heap.size WB W → Calls Tryz.prog 54 #[.slice na names.length nc,.agg #[.int .u8 k,.slice a1 n1 c1,.slice a2 n2 c2,.int .i64 lo,.bool ls,.int .i64 hi,.bool hs,.bool op]] W fun e w' => e = .returned (.int .i64 (z0z names d x)) ∧ Below W.heap.size W w'):=fun W h => check39_any names _ (fun s hs => by have:=hns s hs; omega) m d x _ W hnx (hn.up (HBW.out W h) (HBW.out W h).size) (hx.up (HBW.out W h) (HBW.out W h).size)
 have HSC : Hid (∀ W,Below WB.heap.size WB W → Calls Tryz.prog 55 #[.int .i64 names.length,.slice la l.length lc] W fun e w' => e = .returned (.int .i64 (z0p names.length l)) ∧ Below W.heap.size W w'):=fun W h => by
  rw [check_eq hl.inR]
  exact check22_any _ _ l W (Segs.mono (HBW.out W h).size (Segs.below (HBW.out W h) hl))
 have HR1:=fun W => Jh (z6k a p W ia)
 have HR2:=fun W => Jh (z6k b q W ib)
 have HMY : Hid (∀ W,Below WB.heap.size WB W → Calls Tryz.prog 57 #[.agg #[.int .u8 wk,.int .u8 sd,.slice a3 l3 c3,.slice a4 l4 c4]] W fun e w' => e = .returned (.int .i64 (z2f n t)) ∧ Below W.heap.size W w'):=fun W h => refmany_any n t _ W W.heap.size (PRep.up (HBW.out W h) (HBW.out W h).size hp) (Nat.le_refl _)
 have HSH : Hid (z0z names d x = 0 → z0p names.length l = 0 → mayP (a,p) = true → mayP (b,q) = true → ∀ W,Below WB.heap.size WB W → Calls Tryz.prog 58 #[.slice na names.length nc,.agg #[.int .u8 k,.slice a1 n1 c1,.slice a2 n2 c2,.int .i64 lo,.bool ls,.int .i64 hi,.bool hs,.bool op],.slice la l.length lc,.agg #[.int .i64 a,.int .i64 p],.agg #[.int .i64 b,.int .i64 q],.agg #[.int .u8 wk,.int .u8 sd,.slice a3 l3 c3,.slice a4 l4 c4]] W fun e w' => e = .returned (.bool (z08 (z09 names m) l n (toX d x) (a,p) (b,q) t)) ∧ Below W.heap.size W w'):=by
  intro h1 h2 h3 h4 W h
  obtain ⟨z0,z1,zm,zn,z2⟩:=z6y.1 h1
  have hb:=HBW.out W h
  have hsu:=sumOk_of hl.inR h2
  obtain ⟨hg1,_,_⟩:=good_of hl.inR h2
  obtain ⟨_,hlen,hon⟩:=check_inv h2
  have hnx64 : nX d x ≤ 64:=by rw [manyX_n d x hnx] at zm; omega
  have hsum:=hsu l.length (Nat.le_refl _)
  rw [List.take_length] at hsum
  rw [shows_same (z09 names m) l (fun s hs => by have:=hg1 s hs; omega) hsum.1 (by omega) n (toX d x) (a,p) (b,q) t h3 h4]
  refine z6e names _ la lc l m (namesR_len z0) hsu (by omega) (fun s hs => ?_) n d x _ a p b q t _ W ⟨hr.below hb,hn.up hb hb.size,Segs.mono hb.size (Segs.below hb hl)⟩ (hx.up hb hb.size) (hcap.up hb hb.size) z1 z2 (fine_of z0 d x z1 zn hnx64) (PRep.up hb hb.size hp) hok hsg h3 h4 ia ib
  have h5:=hon s hs
  have h6:=(hl.inR s hs).2.2.1
  rw [Int.toNat_natCast] at h5
  exact on_small h6 h5
 have HD : Hid (z1o names d x l (a,p) (b,q) n t = if z0z names d x ≠ 0 then (false,z0z names d x) else if z0p names.length l ≠ 0 then (false,z0p names.length l)
  else if mayP (a,p) = false ∨ mayP (b,q) = false then (false,2) else if 4096 < z2f n t then (false,4) else (z08 (z09 names m) l n (toX d x) (a,p) (b,q) t,0)):=rfl
 obtain ⟨R,hR⟩ : ∃ R,z08 (z09 names m) l n (toX d x) (a,p) (b,q) t = R:=⟨_,rfl⟩
 obtain ⟨my,hmy⟩ : ∃ my,z2f n t = my:=⟨_,rfl⟩
 obtain ⟨e1,he1⟩ : ∃ e,z0z names d x = e:=⟨_,rfl⟩
 obtain ⟨e2,he2⟩ : ∃ e,z0p names.length l = e:=⟨_,rfl⟩
 obtain ⟨m1,hm1⟩ : ∃ e,mayP (a,p) = e:=⟨_,rfl⟩
 obtain ⟨m2,hm2⟩ : ∃ e,mayP (b,q) = e:=⟨_,rfl⟩
 have hm1' : mayQ a p = m1:=hm1
 have hm2' : mayQ b q = m2:=hm2
 rw [hR,hmy,he1,he2,hm1,hm2] at HD
 rw [hR,he1,he2,hm1,hm2] at HSH
 rw [hmy] at HMY
 rw [he1] at HCK
 rw [he2] at HSC
 rw [hm1'] at HR1
 rw [hm2'] at HR2
 clear hR hmy he1 he2 hm1 hm2 hm1' hm2' hr hn hx hcap hl hp hok hsg hns hnx ia ib
 go_enter Tryz.func22,Tryz.ntmps22
 go_upto_region 1 with fail
 rw [HWB.out]
 clear HWB
 obtain ⟨xf0,xf1,xf2,xf3,xf4,xf5,xf6,xf7,xf8,xf9,xf10,xf11,xf12,xf13,xf14,xf15,xf16,xf17,xf18⟩:=HF.out WB (Below.refl _ _)
 go_wp2_with fail
 refine (HCK.out _ (Below.refl WB.heap.size WB)).mono ?_
 rintro e w1 ⟨rfl,hb⟩
 have HBw1 : Hid (Below WB.heap.size WB w1):=belS (Below.refl WB.heap.size WB) hb
 clear hb xf0 xf1 xf2 xf3 xf4 xf5 xf6 xf7 xf8 xf9 xf10 xf11 xf12 xf13 xf14 xf15 xf16 xf17 xf18
 obtain ⟨xf0,xf1,xf2,xf3,xf4,xf5,xf6,xf7,xf8,xf9,xf10,xf11,xf12,xf13,xf14,xf15,xf16,xf17,xf18⟩:=HF.out w1 HBw1.out
 by_cases g1 : e1 = 0
 rotate_left
 ·have d2 : (e1 != 0) = true:=by simpa using g1
  have HV : Hid (z1o names d x l (a,p) (b,q) n t = (false,e1)):=by rw [Hid,HD.out,if_pos g1]
  clear g1 HD
  go_wp2_with fail
  all_goals go_ret2
  all_goals exact ⟨by rw [HV.out]; rfl,HBW.out _ (HBw1.out)⟩
 subst g1
 go_wp2_with fail
 refine (HSC.out _ HBw1.out).mono ?_
 rintro e w2 ⟨rfl,hb⟩
 have HBw2 : Hid (Below WB.heap.size WB w2):=belS (HBw1.out) hb
 clear hb xf0 xf1 xf2 xf3 xf4 xf5 xf6 xf7 xf8 xf9 xf10 xf11 xf12 xf13 xf14 xf15 xf16 xf17 xf18
 obtain ⟨xf0,xf1,xf2,xf3,xf4,xf5,xf6,xf7,xf8,xf9,xf10,xf11,xf12,xf13,xf14,xf15,xf16,xf17,xf18⟩:=HF.out w2 HBw2.out
 by_cases g2 : e2 = 0
 rotate_left
 ·have d2 : (e2 != 0) = true:=by simpa using g2
  have HV : Hid (z1o names d x l (a,p) (b,q) n t = (false,e2)):=by rw [Hid,HD.out,if_neg (by simp),if_pos g2]
  clear g2 HD
  go_wp2_with fail
  all_goals go_ret2
  all_goals exact ⟨by rw [HV.out]; rfl,HBW.out _ (HBw2.out)⟩
 subst g2
 go_wp2_with fail
 refine (HR1 _).out.mono ?_
 rintro e w3 ⟨rfl,hb⟩
 have HBw3 : Hid (Below WB.heap.size WB w3):=belS (HBw2.out) hb
 clear hb xf0 xf1 xf2 xf3 xf4 xf5 xf6 xf7 xf8 xf9 xf10 xf11 xf12 xf13 xf14 xf15 xf16 xf17 xf18
 obtain ⟨xf0,xf1,xf2,xf3,xf4,xf5,xf6,xf7,xf8,xf9,xf10,xf11,xf12,xf13,xf14,xf15,xf16,xf17,xf18⟩:=HF.out w3 HBw3.out
 cases m1 with
 | false =>
  have HV : Hid (z1o names d x l (a,p) (b,q) n t = (false,2)):=by rw [Hid,HD.out,if_neg (by simp),if_neg (by simp),if_pos (.inl rfl)]
  clear HD
  go_wp2_with fail
  all_goals go_ret2
  all_goals exact ⟨by rw [HV.out]; rfl,HBW.out _ (HBw3.out)⟩
 | true =>
 go_wp2_with fail
 refine (HR2 _).out.mono ?_
 rintro e w4 ⟨rfl,hb⟩
 have HBw4 : Hid (Below WB.heap.size WB w4):=belS (HBw3.out) hb
 clear hb xf0 xf1 xf2 xf3 xf4 xf5 xf6 xf7 xf8 xf9 xf10 xf11 xf12 xf13 xf14 xf15 xf16 xf17 xf18
 obtain ⟨xf0,xf1,xf2,xf3,xf4,xf5,xf6,xf7,xf8,xf9,xf10,xf11,xf12,xf13,xf14,xf15,xf16,xf17,xf18⟩:=HF.out w4 HBw4.out
 cases m2 with
 | false =>
  have HV : Hid (z1o names d x l (a,p) (b,q) n t = (false,2)):=by rw [Hid,HD.out,if_neg (by simp),if_neg (by simp),if_pos (.inr rfl)]
  clear HD
  go_wp2_with fail
  all_goals go_ret2
  all_goals exact ⟨by rw [HV.out]; rfl,HBW.out _ (HBw4.out)⟩
 | true =>
 go_wp2_with fail
 refine (HMY.out _ HBw4.out).mono ?_
 rintro e w5 ⟨rfl,hb⟩
 have HBw5 : Hid (Below WB.heap.size WB w5):=belS (HBw4.out) hb
 clear hb xf0 xf1 xf2 xf3 xf4 xf5 xf6 xf7 xf8 xf9 xf10 xf11 xf12 xf13 xf14 xf15 xf16 xf17 xf18
 obtain ⟨xf0,xf1,xf2,xf3,xf4,xf5,xf6,xf7,xf8,xf9,xf10,xf11,xf12,xf13,xf14,xf15,xf16,xf17,xf18⟩:=HF.out w5 HBw5.out
 by_cases g5 : 4096 < my
 ·have d5 : decide (4096 < my) = true:=by simpa using g5
  have HV : Hid (z1o names d x l (a,p) (b,q) n t = (false,4)):=by rw [Hid,HD.out,if_neg (by simp),if_neg (by simp),if_neg (by simp),if_pos g5]
  clear HD g5
  go_wp2_with fail
  all_goals go_ret2
  all_goals exact ⟨by rw [HV.out]; rfl,HBW.out _ (HBw5.out)⟩
 have d5 : decide (4096 < my) = false:=by simpa using g5
 have HV : Hid (z1o names d x l (a,p) (b,q) n t = (R,0)):=by rw [Hid,HD.out,if_neg (by simp),if_neg (by simp),if_neg (by simp),if_neg g5]
 clear HD g5
 go_wp2_with fail
 refine (HSH.out (by trivial) (by trivial) (by trivial) (by trivial) _ HBw5.out).mono ?_
 rintro e w6 ⟨rfl,hb⟩
 have HBw6 : Hid (Below WB.heap.size WB w6):=belS (HBw5.out) hb
 clear hb xf0 xf1 xf2 xf3 xf4 xf5 xf6 xf7 xf8 xf9 xf10 xf11 xf12 xf13 xf14 xf15 xf16 xf17 xf18
 obtain ⟨xf0,xf1,xf2,xf3,xf4,xf5,xf6,xf7,xf8,xf9,xf10,xf11,xf12,xf13,xf14,xf15,xf16,xf17,xf18⟩:=HF.out w6 HBw6.out
 go_wp2_with fail
 all_goals go_ret2
 all_goals exact ⟨by rw [HV.out]; rfl,HBW.out _ (HBw6.out)⟩
end Go.Proofs.YtockinpjfhhkoaaGreatDoor
