/- The book's parser walked: an expression's least part. (Printed by gen_rcbase.py.) -/
import Derived.Test.YtpgdplmndnopbaaGreatDoorZ08
import Derived.Test.YtpgdplmndnopbaaGreatDoorZ10
import Derived.Test.YtpgdplmndnopbaaGreatDoorZ11
import Derived.Test.YtpgdplmndnopbaaGreatDoorZ02
set_option maxRecDepth 100000
set_option maxHeartbeats 16000000
namespace Go.Proofs.YtpgdplmndnopbaaGreatDoor
open Go.RowKit
theorem ErX.of {pb tb : Nat} {L : List Tok} {stop : Int} {P : Nat → Int → Prop} {e b : Int} {w w' : World} {k lo hi : Int} {a b1 : Option Addr} {n c m d1 : Nat} {ls hs op : Bool} {nx : Nat} {d : Int} (hp : P nx d) (h : Same pb tb w w' L stop nx d e b) :
 ErX pb tb L stop P e b w (.returned (.agg #[.int .u8 k,.slice a n c,.slice b1 m d1,.int .i64 lo,.bool ls,.int .i64 hi,.bool hs,.bool op])) w':=⟨k,a,n,c,b1,m,d1,lo,ls,hi,hs,op,nx,d,rfl,hp,h⟩
theorem base185_deepA (pb tb : Nat) (L : List Tok) (stop : Int) (bad : Int) (nx : Nat) (w : World) (h : RP pb tb w L stop nx 64 0 bad) (q : isT [40] (z01 L stop nx) = true) :
 Calls Tryz.prog 185 #[.pointer (some ⟨pb,0,none⟩)] w (ErX pb tb L stop (fun _ d => d = 65) 171 (z05 (z01 L stop nx)) w):=by
 have hB:=h.base
 have hkp : w.heap.size ≠ pb:=by omega
 have HB:=Lib.hid hB
 have HS1 : Hid (Same pb tb w (w.alloc (.cells #[.int .u8 0,.slice none 0 0,.slice none 0 0,.int .i64 0,.bool false,.int .i64 0,.bool false,.bool false] 28)) L stop nx 64 0 bad):=h.self.alloc _
 have HKR1 : Hid ((w.alloc (.cells #[.int .u8 0,.slice none 0 0,.slice none 0 0,.int .i64 0,.bool false,.int .i64 0,.bool false,.bool false] 28)).heap[w.heap.size]? = some (.cells #[.int .u8 0,.slice none 0 0,.slice none 0 0,.int .i64 0,.bool false,.int .i64 0,.bool false,.bool false] 28 (0,0))):=z06 rfl
 have HE : Hid ((171 : Int) ≠ 0):=by rw [Hid]; decide
 have q1:=z2h q (s':=[60]) rfl
 clear h hB
 go_enter Tryz.func185,Tryz.ntmps185
 have HM2:=Lib.hid (z4a pb tb L stop nx bad ⟨#[40]⟩ (by decide) _ HS1.out.1 q)
 go_wp2_with fail
 refine HM2.out.mono ?_
 rintro en w2 ⟨rfl,hs2⟩
 have HS2:=Lib.hid (RP.same HS1.out hs2)
 have HKR2:=Lib.hid (hs2.at HKR1.out hkp)
 clear hs2
 have HM3:=Lib.hid (z1i pb tb L stop nx 65 171 (z05 (z01 L stop nx)) ⟨#[60]⟩ _ (z4y pb tb L stop nx 65 171 (z05 (z01 L stop nx)) ⟨#[60]⟩ HE.out _ HS2.out.1))
 go_wp2_with fail
 refine HM3.out.mono ?_
 rintro en w3 ⟨rfl,hs2⟩
 have HS3:=Lib.hid (RP.same HS2.out hs2)
 have HKR3:=Lib.hid (hs2.at HKR2.out hkp)
 clear hs2
 clear q q1
 have HM4:=Lib.hid (z43 pb tb L stop nx 65 171 (z05 (z01 L stop nx)) HE.out _ HS3.out.1)
 go_wp2_with fail
 refine HM4.out.mono ?_
 rintro en w4 ⟨k1,s1,a1,n1,c1,nx1,dq1,rfl,⟨hq1,hq2⟩,hs2⟩
 rw [hq1,hq2] at hs2
 clear hq1 hq2
 have HS4:=Lib.hid (RP.same HS3.out hs2)
 have HKR4:=Lib.hid (hs2.at HKR3.out hkp)
 clear hs2
 have hkr:=HKR4.out
 obtain ⟨xe0,xe1,xe2,xe3,xe4,xe5,xe6,xe7,xf0,xf1,xf2,xf3,xf4,xf5,xf6,xf7⟩:=cf8 hkr
 have HAT : Hid (((set8 w4 w.heap.size (.int .u8 1) (.slice (some ⟨w4.heap.size,0,none⟩) 1 1) (.slice none 0 0) (.int .i64 0) (.bool false) (.int .i64 0) (.bool false) (.bool false)).alloc (.cells #[.int .u8 k1,.string s1,.slice a1 n1 c1] 61)).heap[w.heap.size]? = some (.cells #[.int .u8 1,.slice (some ⟨w4.heap.size,0,none⟩) 1 1,.slice none 0 0,.int .i64 0,.bool false,.int .i64 0,.bool false,.bool false] 28 (0,0))):=z0d (z0c hkr _ _ _ _ _ _ _ _ )
 have HOUT : Hid (ErX pb tb L stop (fun _ d => d = 65) 171 (z05 (z01 L stop nx)) w (.returned (.agg #[.int .u8 1,.slice (some ⟨w4.heap.size,0,none⟩) 1 1,.slice none 0 0,.int .i64 0,.bool false,.int .i64 0,.bool false,.bool false])) ((set8 w4 w.heap.size (.int .u8 1) (.slice (some ⟨w4.heap.size,0,none⟩) 1 1) (.slice none 0 0) (.int .i64 0) (.bool false) (.int .i64 0) (.bool false) (.bool false)).alloc (.cells #[.int .u8 k1,.string s1,.slice a1 n1 c1] 61))):=ErX.of rfl ((HS4.out.set8 (Nat.le_refl _) HB.out _ _ _ _ _ _ _ _).alloc _)
 have hltz:=(Array.getElem?_eq_some_iff.1 hkr).1
 clear hkr
 go_wp2_with fail
 refine bodyPost_ret (results_cell_row rfl _ _ _ _ _ _ _ rfl HAT.out Tryz.underlying28 rfl (by kernel_rfl)) rfl ?_
 exact HOUT.out
theorem base185_deepB (pb tb : Nat) (L : List Tok) (stop : Int) (bad : Int) (nx : Nat) (w : World) (h : RP pb tb w L stop nx 64 0 bad) (q : isT [60] (z01 L stop nx) = true) :
 Calls Tryz.prog 185 #[.pointer (some ⟨pb,0,none⟩)] w (ErX pb tb L stop (fun _ d => d = 65) 171 (z05 (z01 L stop nx)) w):=by
 have hB:=h.base
 have hkp : w.heap.size ≠ pb:=by omega
 have HB:=Lib.hid hB
 have HS1 : Hid (Same pb tb w (w.alloc (.cells #[.int .u8 0,.slice none 0 0,.slice none 0 0,.int .i64 0,.bool false,.int .i64 0,.bool false,.bool false] 28)) L stop nx 64 0 bad):=h.self.alloc _
 have HKR1 : Hid ((w.alloc (.cells #[.int .u8 0,.slice none 0 0,.slice none 0 0,.int .i64 0,.bool false,.int .i64 0,.bool false,.bool false] 28)).heap[w.heap.size]? = some (.cells #[.int .u8 0,.slice none 0 0,.slice none 0 0,.int .i64 0,.bool false,.int .i64 0,.bool false,.bool false] 28 (0,0))):=z06 rfl
 have HE : Hid ((171 : Int) ≠ 0):=by rw [Hid]; decide
 have q1:=z2h q (s':=[40]) rfl
 clear h hB
 go_enter Tryz.func185,Tryz.ntmps185
 have HI2:=z1t pb tb L stop nx 64 bad ⟨#[40]⟩ (by decide) _ HS1.out.1
 rw [show (⟨#[40]⟩ : ByteArray).data.toList = [40] from rfl,q1] at HI2
 have HM2:=Lib.hid (z1i pb tb L stop nx 64 0 bad ⟨#[40]⟩ _ HI2)
 clear HI2
 go_wp2_with fail
 refine HM2.out.mono ?_
 rintro en w2 ⟨rfl,hs2⟩
 have HS2:=Lib.hid (RP.same HS1.out hs2)
 have HKR2:=Lib.hid (hs2.at HKR1.out hkp)
 clear hs2
 have HM3:=Lib.hid (z4a pb tb L stop nx bad ⟨#[60]⟩ (by decide) _ HS2.out.1 q)
 go_wp2_with fail
 refine HM3.out.mono ?_
 rintro en w3 ⟨rfl,hs2⟩
 have HS3:=Lib.hid (RP.same HS2.out hs2)
 have HKR3:=Lib.hid (hs2.at HKR2.out hkp)
 clear hs2
 clear q q1
 have HM4:=Lib.hid (z43 pb tb L stop nx 65 171 (z05 (z01 L stop nx)) HE.out _ HS3.out.1)
 go_wp2_with fail
 refine HM4.out.mono ?_
 rintro en w4 ⟨k1,s1,a1,n1,c1,nx1,dq1,rfl,⟨hq1,hq2⟩,hs2⟩
 rw [hq1,hq2] at hs2
 clear hq1 hq2
 have HS4:=Lib.hid (RP.same HS3.out hs2)
 have HKR4:=Lib.hid (hs2.at HKR3.out hkp)
 clear hs2
 have hkr:=HKR4.out
 obtain ⟨xe0,xe1,xe2,xe3,xe4,xe5,xe6,xe7,xf0,xf1,xf2,xf3,xf4,xf5,xf6,xf7⟩:=cf8 hkr
 have HAT : Hid (((set8 w4 w.heap.size (.int .u8 1) (.slice (some ⟨w4.heap.size,0,none⟩) 1 1) (.slice none 0 0) (.int .i64 0) (.bool false) (.int .i64 0) (.bool false) (.bool false)).alloc (.cells #[.int .u8 k1,.string s1,.slice a1 n1 c1] 61)).heap[w.heap.size]? = some (.cells #[.int .u8 1,.slice (some ⟨w4.heap.size,0,none⟩) 1 1,.slice none 0 0,.int .i64 0,.bool false,.int .i64 0,.bool false,.bool false] 28 (0,0))):=z0d (z0c hkr _ _ _ _ _ _ _ _ )
 have HOUT : Hid (ErX pb tb L stop (fun _ d => d = 65) 171 (z05 (z01 L stop nx)) w (.returned (.agg #[.int .u8 1,.slice (some ⟨w4.heap.size,0,none⟩) 1 1,.slice none 0 0,.int .i64 0,.bool false,.int .i64 0,.bool false,.bool false])) ((set8 w4 w.heap.size (.int .u8 1) (.slice (some ⟨w4.heap.size,0,none⟩) 1 1) (.slice none 0 0) (.int .i64 0) (.bool false) (.int .i64 0) (.bool false) (.bool false)).alloc (.cells #[.int .u8 k1,.string s1,.slice a1 n1 c1] 61))):=ErX.of rfl ((HS4.out.set8 (Nat.le_refl _) HB.out _ _ _ _ _ _ _ _).alloc _)
 have hltz:=(Array.getElem?_eq_some_iff.1 hkr).1
 clear hkr
 go_wp2_with fail
 refine bodyPost_ret (results_cell_row rfl _ _ _ _ _ _ _ rfl HAT.out Tryz.underlying28 rfl (by kernel_rfl)) rfl ?_
 exact HOUT.out
theorem base185_atom (pb tb : Nat) (L : List Tok) (stop : Int) (deep : Nat) (bad : Int) (nx : Nat) (w : World) (h : RP pb tb w L stop nx deep 0 bad) (hd : deep ≤ 64) (RES : PRes X) (hR : RES = atomR deep (z01 L stop nx)) (q1 : isT [40] (z01 L stop nx) = false) (q2 : isT [60] (z01 L stop nx) = false) :
 Calls Tryz.prog 185 #[.pointer (some ⟨pb,0,none⟩)] w (OutRX pb tb L stop deep bad w RES):=by
 have hB:=h.base
 have hkp : w.heap.size ≠ pb:=by omega
 have HB:=Lib.hid hB
 have HS1 : Hid (Same pb tb w (w.alloc (.cells #[.int .u8 0,.slice none 0 0,.slice none 0 0,.int .i64 0,.bool false,.int .i64 0,.bool false,.bool false] 28)) L stop nx deep 0 bad):=h.self.alloc _
 have HKR1 : Hid ((w.alloc (.cells #[.int .u8 0,.slice none 0 0,.slice none 0 0,.int .i64 0,.bool false,.int .i64 0,.bool false,.bool false] 28)).heap[w.heap.size]? = some (.cells #[.int .u8 0,.slice none 0 0,.slice none 0 0,.int .i64 0,.bool false,.int .i64 0,.bool false,.bool false] 28 (0,0))):=z06 rfl
 have HF:=Lib.hid (fun W (h : RP pb tb W L stop nx deep 0 bad) => formula205_any pb tb L stop bad 66 deep nx W hd (by omega) h)
 unfold atomR at hR
 obtain ⟨RES0,hR0⟩ : ∃ RES0,RES0 = z1e 66 deep (z01 L stop nx):=⟨_,rfl⟩
 rw [← hR0] at hR HF
 have HR:=Lib.hid hR
 have HNE : Hid (∀ c,RES0 = .error c → c.1 ≠ 0):=fun c hc => LocA.ne (z4m 66 deep) _ c (z33 L stop nx) (hR0.symm.trans hc)
 clear h hB hR hR0 hd
 go_enter Tryz.func185,Tryz.ntmps185
 have HI2:=z1t pb tb L stop nx deep bad ⟨#[40]⟩ (by decide) _ HS1.out.1
 rw [show (⟨#[40]⟩ : ByteArray).data.toList = [40] from rfl,q1] at HI2
 have HM2:=Lib.hid (z1i pb tb L stop nx deep 0 bad ⟨#[40]⟩ _ HI2)
 clear HI2
 go_wp2_with fail
 refine HM2.out.mono ?_
 rintro en w2 ⟨rfl,hs2⟩
 have HS2:=Lib.hid (RP.same HS1.out hs2)
 have HKR2:=Lib.hid (hs2.at HKR1.out hkp)
 clear hs2
 have HI3:=z1t pb tb L stop nx deep bad ⟨#[60]⟩ (by decide) _ HS2.out.1
 rw [show (⟨#[60]⟩ : ByteArray).data.toList = [60] from rfl,q2] at HI3
 have HM3:=Lib.hid (z1i pb tb L stop nx deep 0 bad ⟨#[60]⟩ _ HI3)
 clear HI3
 go_wp2_with fail
 refine HM3.out.mono ?_
 rintro en w3 ⟨rfl,hs2⟩
 have HS3:=Lib.hid (RP.same HS2.out hs2)
 have HKR3:=Lib.hid (hs2.at HKR2.out hkp)
 clear hs2
 clear q1 q2
 have HM4:=Lib.hid (HF.out w3 HS3.out.1)
 cases RES0 with
 | error c =>
  have HRES : Hid (RES = .error c):=HR.out
  go_wp2_with fail
  refine HM4.out.mono ?_
  rintro en w4 ⟨hc0,k1,s1,a1,n1,c1,nx1,dq1,rfl,hd1,hs2⟩
  have HS4:=Lib.hid (RP.same HS3.out hs2)
  have HKR4:=Lib.hid (hs2.at HKR3.out hkp)
  have HC0:=Lib.hid hc0
  have HD1:=Lib.hid hd1
  clear hs2 hc0 hd1
  have hkr:=HKR4.out
  obtain ⟨xe0,xe1,xe2,xe3,xe4,xe5,xe6,xe7,xf0,xf1,xf2,xf3,xf4,xf5,xf6,xf7⟩:=cf8 hkr
  have HAT : Hid (((set8 w4 w.heap.size (.int .u8 1) (.slice (some ⟨w4.heap.size,0,none⟩) 1 1) (.slice none 0 0) (.int .i64 0) (.bool false) (.int .i64 0) (.bool false) (.bool false)).alloc (.cells #[.int .u8 k1,.string s1,.slice a1 n1 c1] 61)).heap[w.heap.size]? = some (.cells #[.int .u8 1,.slice (some ⟨w4.heap.size,0,none⟩) 1 1,.slice none 0 0,.int .i64 0,.bool false,.int .i64 0,.bool false,.bool false] 28 (0,0))):=z0d (z0c hkr _ _ _ _ _ _ _ _ )
  have HOUT : Hid (OutRX pb tb L stop deep bad w (.error c) (.returned (.agg #[.int .u8 1,.slice (some ⟨w4.heap.size,0,none⟩) 1 1,.slice none 0 0,.int .i64 0,.bool false,.int .i64 0,.bool false,.bool false])) ((set8 w4 w.heap.size (.int .u8 1) (.slice (some ⟨w4.heap.size,0,none⟩) 1 1) (.slice none 0 0) (.int .i64 0) (.bool false) (.int .i64 0) (.bool false) (.bool false)).alloc (.cells #[.int .u8 k1,.string s1,.slice a1 n1 c1] 61))):=⟨HC0.out,ErX.of HD1.out ((HS4.out.set8 (Nat.le_refl _) HB.out _ _ _ _ _ _ _ _).alloc _)⟩
  have hltz:=(Array.getElem?_eq_some_iff.1 hkr).1
  clear hkr
  go_wp2_with fail
  refine bodyPost_ret (results_cell_row rfl _ _ _ _ _ _ _ rfl HAT.out Tryz.underlying28 rfl (by kernel_rfl)) rfl ?_
  rw [HRES.out]
  exact HOUT.out
 | ok xr =>
  obtain ⟨x,r⟩:=xr
  go_wp2_with fail
  refine HM4.out.mono ?_
  rintro en w4 ho
  obtain ⟨k1,s1,a1,n1,c1,nx1,rfl,hf,hr,hs2⟩:=OutRF.ok ho
  have HRES : Hid (RES = .ok (.mk 1 [x] [] noSpan,z01 L stop nx1)):=by rw [Hid,HR.out,hr]; rfl
  have HF4:=Lib.hid hf
  have hk3:=(Array.getElem?_eq_some_iff.1 HKR3.out).1
  have HS4:=Lib.hid (RP.same HS3.out hs2)
  have HKR4:=Lib.hid (hs2.at HKR3.out hkp)
  have hk4:=(Array.getElem?_eq_some_iff.1 HKR4.out).1
  clear hs2 ho hf hr
  have hkr:=HKR4.out
  obtain ⟨xe0,xe1,xe2,xe3,xe4,xe5,xe6,xe7,xf0,xf1,xf2,xf3,xf4,xf5,xf6,xf7⟩:=cf8 hkr
  have HAT : Hid (((set8 w4 w.heap.size (.int .u8 1) (.slice (some ⟨w4.heap.size,0,none⟩) 1 1) (.slice none 0 0) (.int .i64 0) (.bool false) (.int .i64 0) (.bool false) (.bool false)).alloc (.cells #[.int .u8 k1,.string s1,.slice a1 n1 c1] 61)).heap[w.heap.size]? = some (.cells #[.int .u8 1,.slice (some ⟨w4.heap.size,0,none⟩) 1 1,.slice none 0 0,.int .i64 0,.bool false,.int .i64 0,.bool false,.bool false] 28 (0,0))):=z0d (z0c hkr _ _ _ _ _ _ _ _ )
  have HOUT : Hid (OutRX pb tb L stop deep bad w (.ok (.mk 1 [x] [] noSpan,z01 L stop nx1)) (.returned (.agg #[.int .u8 1,.slice (some ⟨w4.heap.size,0,none⟩) 1 1,.slice none 0 0,.int .i64 0,.bool false,.int .i64 0,.bool false,.bool false])) ((set8 w4 w.heap.size (.int .u8 1) (.slice (some ⟨w4.heap.size,0,none⟩) 1 1) (.slice none 0 0) (.int .i64 0) (.bool false) (.int .i64 0) (.bool false) (.bool false)).alloc (.cells #[.int .u8 k1,.string s1,.slice a1 n1 c1] 61))):=by
   refine ⟨_,nx1,rfl,?_,rfl,(HS4.out.set8 (Nat.le_refl _) HB.out _ _ _ _ _ _ _ _).alloc _⟩
   have hf1 : FI (fun b => decide (w.heap.size < b)) ((set8 w4 w.heap.size (.int .u8 1) (.slice (some ⟨w4.heap.size,0,none⟩) 1 1) (.slice none 0 0) (.int .i64 0) (.bool false) (.int .i64 0) (.bool false) (.bool false)).alloc (.cells #[.int .u8 k1,.string s1,.slice a1 n1 c1] 61)) x (.agg #[.int .u8 k1,.string s1,.slice a1 n1 c1]):=by
    refine HF4.out.go ⟨by simp [z0b],fun b hbz hpn => ?_⟩
    have hpn':=of_decide_eq_true hpn
    exact ⟨decide_eq_true (by omega),(Lib.alloc_old _ _ _ (by rw [z0b]; exact hbz)).trans (z03 _ _ _ _ _ _ _ _ _ _ _ (by omega))⟩
   have hf2:=XI.atom hf1 1 w4.heap.size 1 0 none (0,0) (decide_eq_true (by omega)) (z06 (by rw [z0b]))
   refine XI.go hf2 ⟨Nat.le_refl _,fun b hbz hpc => ?_⟩
   have:=of_decide_eq_true hpc
   exact ⟨decide_eq_true (show w.heap.size ≤ b by omega),rfl⟩
  have hltz:=(Array.getElem?_eq_some_iff.1 hkr).1
  clear hkr
  go_wp2_with fail
  refine bodyPost_ret (results_cell_row rfl _ _ _ _ _ _ _ rfl HAT.out Tryz.underlying28 rfl (by kernel_rfl)) rfl ?_
  rw [HRES.out]
  exact HOUT.out
theorem base185_in (pb tb : Nat) (L : List Tok) (stop : Int) (deep : Nat) (bad : Int) (nx : Nat) (w : World) (h : RP pb tb w L stop nx deep 0 bad) (hd : deep < 64) (RES RES0 : PRes X) (hR : RES = z1y RES0 fun x r => if isT [41] r then .ok (x,r.tail) else z1k 170 r) (q : isT [40] (z01 L stop nx) = true)
 (htre : ∀ w',Bt pb w w' → RP pb tb w' L stop (nx + 1) (deep + 1 : Nat) 0 bad → Calls Tryz.prog 48 #[.pointer (some ⟨pb,0,none⟩)] w' (OutRX pb tb L stop (deep + 1) bad w' RES0)) :
 Calls Tryz.prog 185 #[.pointer (some ⟨pb,0,none⟩)] w (OutRX pb tb L stop deep bad w RES):=by
 have hB:=h.base
 have hkp : w.heap.size ≠ pb:=by omega
 have HB:=Lib.hid hB
 have HS1 : Hid (Same pb tb w (w.alloc (.cells #[.int .u8 0,.slice none 0 0,.slice none 0 0,.int .i64 0,.bool false,.int .i64 0,.bool false,.bool false] 28)) L stop nx deep 0 bad):=h.self.alloc _
 have HKR1 : Hid ((w.alloc (.cells #[.int .u8 0,.slice none 0 0,.slice none 0 0,.int .i64 0,.bool false,.int .i64 0,.bool false,.bool false] 28)).heap[w.heap.size]? = some (.cells #[.int .u8 0,.slice none 0 0,.slice none 0 0,.int .i64 0,.bool false,.int .i64 0,.bool false,.bool false] 28 (0,0))):=z06 rfl
 have HF:=Lib.hid htre
 have HR:=Lib.hid hR
 have HD:=Lib.hid hd
 clear h hB htre hR hd
 go_enter Tryz.func185,Tryz.ntmps185
 have HM2:=Lib.hid (z5k pb tb L stop nx deep bad (by omega) (by have:=HD.out; omega) ⟨#[40]⟩ (by decide) _ HS1.out.1 q)
 clear q
 go_wp2_with fail
 refine HM2.out.mono ?_
 rintro en w2 ⟨rfl,hs2⟩
 have HS2:=Lib.hid (RP.same HS1.out hs2)
 have HKR2:=Lib.hid (hs2.at HKR1.out hkp)
 clear hs2
 have HS3:=HS2
 have HKR3:=HKR2
 have HM4:=Lib.hid (HF.out w2 HS2.out.2 HS2.out.1)
 cases RES0 with
 | error c =>
  have HRES : Hid (RES = .error c):=HR.out
  go_wp2_with fail
  refine HM4.out.mono ?_
  rintro en w4 ⟨hc0,k1,a1,n1,c1,b1,m1,d1,lo1,ls1,hi1,hs1,op1,nx1,dq1,rfl,hd1,hs2⟩
  have HS4:=Lib.hid (RP.same HS3.out hs2)
  have HKR4:=Lib.hid (hs2.at HKR3.out hkp)
  have HC0:=Lib.hid hc0
  have HD1:=Lib.hid hd1
  obtain ⟨kv,hkv⟩ : ∃ kv,kv = w4.heap.size:=⟨_,rfl⟩
  have hkvl : w.heap.size < kv:=by have:=(Array.getElem?_eq_some_iff.1 HKR4.out).1; omega
  have hkvp : kv ≠ pb:=by have:=HB.out.1; omega
  obtain ⟨w5,hw5⟩ : ∃ w5,w5 = w4.alloc (.cells #[.int .u8 k1,.slice a1 n1 c1,.slice b1 m1 d1,.int .i64 lo1,.bool ls1,.int .i64 hi1,.bool hs1,.bool op1] 28):=⟨_,rfl⟩
  have HS5 : Hid (Same pb tb w w5 L stop nx1 dq1 c.1 c.2):=by rw [Hid,hw5]; exact HS4.out.alloc _
  have HKR5 : Hid (w5.heap[w.heap.size]? = some (.cells #[.int .u8 0,.slice none 0 0,.slice none 0 0,.int .i64 0,.bool false,.int .i64 0,.bool false,.bool false] 28 (0,0))):=by rw [Hid,hw5]; exact z0d HKR4.out
  have HKV5 : Hid (w5.heap[kv]? = some (.cells #[.int .u8 k1,.slice a1 n1 c1,.slice b1 m1 d1,.int .i64 lo1,.bool ls1,.int .i64 hi1,.bool hs1,.bool op1] 28 (0,0))):=by rw [Hid,hw5]; exact z06 hkv
  have HW5:=Lib.hid hw5.symm
  have HKW:=Lib.hid hkv.symm
  clear hs2 hc0 hd1 hkv hw5
  go_upto_region 3 with fail
  rw [HW5.out,HKW.out]
  clear HW5 HKW
  have HM6:=Lib.hid (z1v pb tb L L stop stop nx1 dq1 c.1 c.2 (by have:=HD1.out.1; omega) (by have:=HD1.out.2; have:=HD.out; omega) ⟨#[41]⟩ w5 (z0i pb tb L stop nx1 dq1 c.1 c.2 ⟨#[41]⟩ HC0.out w5 HS5.out.1))
  go_wp2_with fail
  refine HM6.out.mono ?_
  rintro en w6 ⟨rfl,hs2⟩
  have HS6:=Lib.hid (RP.same HS5.out hs2)
  have HKR6:=Lib.hid (hs2.at HKR5.out hkp)
  have HKV6:=Lib.hid (hs2.at HKV5.out hkvp)
  clear hs2
  have hkv6:=HKV6.out
  obtain ⟨xg0,xg1,xg2,xg3,xg4,xg5,xg6,xg7⟩:=cc8 hkv6
  have hltv:=(Array.getElem?_eq_some_iff.1 hkv6).1
  clear hkv6
  have hkr:=HKR6.out
  obtain ⟨xe0,xe1,xe2,xe3,xe4,xe5,xe6,xe7,xf0,xf1,xf2,xf3,xf4,xf5,xf6,xf7⟩:=cf8 hkr
  have HAT : Hid ((set8 w6 w.heap.size (.int .u8 k1) (.slice a1 n1 c1) (.slice b1 m1 d1) (.int .i64 lo1) (.bool ls1) (.int .i64 hi1) (.bool hs1) (.bool op1)).heap[w.heap.size]? = some (.cells #[.int .u8 k1,.slice a1 n1 c1,.slice b1 m1 d1,.int .i64 lo1,.bool ls1,.int .i64 hi1,.bool hs1,.bool op1] 28 (0,0))):=z0c hkr _ _ _ _ _ _ _ _ 
  have HOUT : Hid (OutRX pb tb L stop deep bad w (.error c) (.returned (.agg #[.int .u8 k1,.slice a1 n1 c1,.slice b1 m1 d1,.int .i64 lo1,.bool ls1,.int .i64 hi1,.bool hs1,.bool op1])) (set8 w6 w.heap.size (.int .u8 k1) (.slice a1 n1 c1) (.slice b1 m1 d1) (.int .i64 lo1) (.bool ls1) (.int .i64 hi1) (.bool hs1) (.bool op1))):=⟨HC0.out,ErX.of (by have:=HD1.out; push_cast at this; omega) (HS6.out.set8 (Nat.le_refl _) HB.out _ _ _ _ _ _ _ _)⟩
  have hltz:=(Array.getElem?_eq_some_iff.1 hkr).1
  clear hkr
  go_wp2_with fail
  refine bodyPost_ret (results_cell_row rfl _ _ _ _ _ _ _ rfl HAT.out Tryz.underlying28 rfl (by kernel_rfl)) rfl ?_
  rw [HRES.out]
  exact HOUT.out
 | ok xr =>
  obtain ⟨x,r⟩:=xr
  go_wp2_with fail
  refine HM4.out.mono ?_
  rintro en w4 ho
  obtain ⟨k1,a1,n1,c1,b1,m1,d1,lo1,ls1,hi1,hs1,op1,nx1,rfl,hf,hr,hs2⟩:=OutRX.ok ho
  have HS4:=Lib.hid (RP.same HS3.out hs2)
  have HKR4:=Lib.hid (hs2.at HKR3.out hkp)
  obtain ⟨kv,hkv⟩ : ∃ kv,kv = w4.heap.size:=⟨_,rfl⟩
  have hkvl : w.heap.size < kv:=by have:=(Array.getElem?_eq_some_iff.1 HKR4.out).1; omega
  have hkvp : kv ≠ pb:=by have:=HB.out.1; omega
  obtain ⟨w5,hw5⟩ : ∃ w5,w5 = w4.alloc (.cells #[.int .u8 k1,.slice a1 n1 c1,.slice b1 m1 d1,.int .i64 lo1,.bool ls1,.int .i64 hi1,.bool hs1,.bool op1] 28):=⟨_,rfl⟩
  have HS5 : Hid (Same pb tb w w5 L stop nx1 ((deep + 1 : Nat) : Int) 0 bad):=by rw [Hid,hw5]; exact HS4.out.alloc _
  have HKR5 : Hid (w5.heap[w.heap.size]? = some (.cells #[.int .u8 0,.slice none 0 0,.slice none 0 0,.int .i64 0,.bool false,.int .i64 0,.bool false,.bool false] 28 (0,0))):=by rw [Hid,hw5]; exact z0d HKR4.out
  have HKV5 : Hid (w5.heap[kv]? = some (.cells #[.int .u8 k1,.slice a1 n1 c1,.slice b1 m1 d1,.int .i64 lo1,.bool ls1,.int .i64 hi1,.bool hs1,.bool op1] 28 (0,0))):=by rw [Hid,hw5]; exact z06 hkv
  have hsz3:=HS3.out.size
  have hk3:=(Array.getElem?_eq_some_iff.1 HKR3.out).1
  have HF5 : Hid (XI (fun b => decide (w.heap.size < b)) w5 x (.agg #[.int .u8 k1,.slice a1 n1 c1,.slice b1 m1 d1,.int .i64 lo1,.bool ls1,.int .i64 hi1,.bool hs1,.bool op1])):=by
   rw [Hid,hw5]
   refine hf.go ⟨by simp,fun b hb hpn => ⟨?_,Lib.alloc_old _ _ _ hb⟩⟩
   have : w2.heap.size ≤ b:=of_decide_eq_true hpn
   exact decide_eq_true (by omega)
  have HW5:=Lib.hid hw5.symm
  have HKW:=Lib.hid hkv.symm
  have HRR:=Lib.hid hr
  clear hs2 ho hf hr hkv hw5
  go_upto_region 3 with fail
  rw [HW5.out,HKW.out]
  clear HW5 HKW
  cases qs : isT [41] (z01 L stop nx1) with
  | true =>
   have hlt1:=z0z (s:=[41]) (by decide) qs
   have HRES : Hid (RES = .ok (x,z01 L stop (nx1 + 1))):=by
    rw [Hid,HR.out]; show (if isT [41] r = true then _ else _) = _; rw [HRR.out,if_pos qs,z0p hlt1]
   have HM6:=Lib.hid (z1v pb tb L L stop stop (nx1 + 1) ((deep + 1 : Nat) : Int) 0 bad (by omega) (by have:=HD.out; omega) ⟨#[41]⟩ w5 (z1q pb tb L stop nx1 ((deep + 1 : Nat) : Int) bad ⟨#[41]⟩ (by decide) w5 HS5.out.1 qs))
   rw [show ((deep + 1 : Nat) : Int) - 1 = (deep : Int) by omega] at HM6
   clear qs hlt1
   go_wp2_with fail
   refine HM6.out.mono ?_
   rintro en w6 ⟨rfl,hs2⟩
   have HS6:=Lib.hid (RP.same HS5.out hs2)
   have HKR6:=Lib.hid (hs2.at HKR5.out hkp)
   have HKV6:=Lib.hid (hs2.at HKV5.out hkvp)
   have HBT6:=Lib.hid hs2.2
   clear hs2
   have hkv6:=HKV6.out
   obtain ⟨xg0,xg1,xg2,xg3,xg4,xg5,xg6,xg7⟩:=cc8 hkv6
   have hltv:=(Array.getElem?_eq_some_iff.1 hkv6).1
   clear hkv6
   have hkr:=HKR6.out
   obtain ⟨xe0,xe1,xe2,xe3,xe4,xe5,xe6,xe7,xf0,xf1,xf2,xf3,xf4,xf5,xf6,xf7⟩:=cf8 hkr
   have HAT : Hid ((set8 w6 w.heap.size (.int .u8 k1) (.slice a1 n1 c1) (.slice b1 m1 d1) (.int .i64 lo1) (.bool ls1) (.int .i64 hi1) (.bool hs1) (.bool op1)).heap[w.heap.size]? = some (.cells #[.int .u8 k1,.slice a1 n1 c1,.slice b1 m1 d1,.int .i64 lo1,.bool ls1,.int .i64 hi1,.bool hs1,.bool op1] 28 (0,0))):=z0c hkr _ _ _ _ _ _ _ _ 
   have HOUT : Hid (OutRX pb tb L stop deep bad w (.ok (x,z01 L stop (nx1 + 1))) (.returned (.agg #[.int .u8 k1,.slice a1 n1 c1,.slice b1 m1 d1,.int .i64 lo1,.bool ls1,.int .i64 hi1,.bool hs1,.bool op1])) (set8 w6 w.heap.size (.int .u8 k1) (.slice a1 n1 c1) (.slice b1 m1 d1) (.int .i64 lo1) (.bool ls1) (.int .i64 hi1) (.bool hs1) (.bool op1))):=by
    refine ⟨_,nx1 + 1,rfl,?_,rfl,HS6.out.set8 (Nat.le_refl _) HB.out _ _ _ _ _ _ _ _⟩
    refine HF5.out.go ⟨by rw [z0b]; exact HBT6.out.2.2.2.1,fun b hb hpn => ?_⟩
    have hpn':=of_decide_eq_true hpn
    have:=HB.out.1
    exact ⟨decide_eq_true (show w.heap.size ≤ b by omega),(z03 _ _ _ _ _ _ _ _ _ _ _ (by omega)).trans (HBT6.out.2.2.2.2 b hb (by omega))⟩
   have hltz:=(Array.getElem?_eq_some_iff.1 hkr).1
   clear hkr
   go_wp2_with fail
   refine bodyPost_ret (results_cell_row rfl _ _ _ _ _ _ _ rfl HAT.out Tryz.underlying28 rfl (by kernel_rfl)) rfl ?_
   rw [HRES.out]
   exact HOUT.out
  | false =>
   have HRES : Hid (RES = .error (170,z05 (z01 L stop nx1))):=by
    rw [Hid,HR.out]; show (if isT [41] r = true then _ else _) = _; rw [HRR.out,qs]; rfl
   have HM6:=Lib.hid (z1v pb tb L L stop stop nx1 ((deep + 1 : Nat) : Int) 170 (z05 (z01 L stop nx1)) (by omega) (by have:=HD.out; omega) ⟨#[41]⟩ w5 (z1r pb tb L stop nx1 ((deep + 1 : Nat) : Int) bad ⟨#[41]⟩ (by decide) w5 HS5.out.1 qs))
   rw [show ((deep + 1 : Nat) : Int) - 1 = (deep : Int) by omega] at HM6
   clear qs
   go_wp2_with fail
   refine HM6.out.mono ?_
   rintro en w6 ⟨rfl,hs2⟩
   have HS6:=Lib.hid (RP.same HS5.out hs2)
   have HKR6:=Lib.hid (hs2.at HKR5.out hkp)
   have HKV6:=Lib.hid (hs2.at HKV5.out hkvp)
   clear hs2
   have hkv6:=HKV6.out
   obtain ⟨xg0,xg1,xg2,xg3,xg4,xg5,xg6,xg7⟩:=cc8 hkv6
   have hltv:=(Array.getElem?_eq_some_iff.1 hkv6).1
   clear hkv6
   have hkr:=HKR6.out
   obtain ⟨xe0,xe1,xe2,xe3,xe4,xe5,xe6,xe7,xf0,xf1,xf2,xf3,xf4,xf5,xf6,xf7⟩:=cf8 hkr
   have HAT : Hid ((set8 w6 w.heap.size (.int .u8 k1) (.slice a1 n1 c1) (.slice b1 m1 d1) (.int .i64 lo1) (.bool ls1) (.int .i64 hi1) (.bool hs1) (.bool op1)).heap[w.heap.size]? = some (.cells #[.int .u8 k1,.slice a1 n1 c1,.slice b1 m1 d1,.int .i64 lo1,.bool ls1,.int .i64 hi1,.bool hs1,.bool op1] 28 (0,0))):=z0c hkr _ _ _ _ _ _ _ _ 
   have HOUT : Hid (OutRX pb tb L stop deep bad w (.error (170,z05 (z01 L stop nx1))) (.returned (.agg #[.int .u8 k1,.slice a1 n1 c1,.slice b1 m1 d1,.int .i64 lo1,.bool ls1,.int .i64 hi1,.bool hs1,.bool op1])) (set8 w6 w.heap.size (.int .u8 k1) (.slice a1 n1 c1) (.slice b1 m1 d1) (.int .i64 lo1) (.bool ls1) (.int .i64 hi1) (.bool hs1) (.bool op1))):=⟨show (170 : Int) ≠ 0 by decide,ErX.of (by omega) (HS6.out.set8 (Nat.le_refl _) HB.out _ _ _ _ _ _ _ _)⟩
   have hltz:=(Array.getElem?_eq_some_iff.1 hkr).1
   clear hkr
   go_wp2_with fail
   refine bodyPost_ret (results_cell_row rfl _ _ _ _ _ _ _ rfl HAT.out Tryz.underlying28 rfl (by kernel_rfl)) rfl ?_
   rw [HRES.out]
   exact HOUT.out
theorem base185_tim (pb tb : Nat) (L : List Tok) (stop : Int) (deep : Nat) (bad : Int) (nx : Nat) (w : World) (h : RP pb tb w L stop nx deep 0 bad) (hd : deep < 64) (RES RES0 : PRes X) (hR : RES = z1y (z1y RES0 fun x r => if isT [62] r then .ok (x,r.tail) else z1k 170 r) z4p) (q : isT [60] (z01 L stop nx) = true)
 (htre : ∀ w',Bt pb w w' → RP pb tb w' L stop (nx + 1) (deep + 1 : Nat) 0 bad → Calls Tryz.prog 48 #[.pointer (some ⟨pb,0,none⟩)] w' (OutRX pb tb L stop (deep + 1) bad w' RES0)) :
 Calls Tryz.prog 185 #[.pointer (some ⟨pb,0,none⟩)] w (OutRX pb tb L stop deep bad w RES):=by
 have hB:=h.base
 have hkp : w.heap.size ≠ pb:=by omega
 have HB:=Lib.hid hB
 have HS1 : Hid (Same pb tb w (w.alloc (.cells #[.int .u8 0,.slice none 0 0,.slice none 0 0,.int .i64 0,.bool false,.int .i64 0,.bool false,.bool false] 28)) L stop nx deep 0 bad):=h.self.alloc _
 have HKR1 : Hid ((w.alloc (.cells #[.int .u8 0,.slice none 0 0,.slice none 0 0,.int .i64 0,.bool false,.int .i64 0,.bool false,.bool false] 28)).heap[w.heap.size]? = some (.cells #[.int .u8 0,.slice none 0 0,.slice none 0 0,.int .i64 0,.bool false,.int .i64 0,.bool false,.bool false] 28 (0,0))):=z06 rfl
 have HF:=Lib.hid htre
 have HR:=Lib.hid hR
 have HD:=Lib.hid hd
 have q1:=z2h q (s':=[40]) rfl
 clear h hB htre hR hd
 go_enter Tryz.func185,Tryz.ntmps185
 have HI2:=z1t pb tb L stop nx deep bad ⟨#[40]⟩ (by decide) _ HS1.out.1
 rw [show (⟨#[40]⟩ : ByteArray).data.toList = [40] from rfl,q1] at HI2
 have HM2:=Lib.hid (z1i pb tb L stop nx deep 0 bad ⟨#[40]⟩ _ HI2)
 clear HI2
 go_wp2_with fail
 refine HM2.out.mono ?_
 rintro en w2 ⟨rfl,hs2⟩
 have HS2:=Lib.hid (RP.same HS1.out hs2)
 have HKR2:=Lib.hid (hs2.at HKR1.out hkp)
 clear hs2
 have HM3:=Lib.hid (z5k pb tb L stop nx deep bad (by omega) (by have:=HD.out; omega) ⟨#[60]⟩ (by decide) _ HS2.out.1 q)
 clear q q1
 go_wp2_with fail
 refine HM3.out.mono ?_
 rintro en w3 ⟨rfl,hs2⟩
 have HS3:=Lib.hid (RP.same HS2.out hs2)
 have HKR3:=Lib.hid (hs2.at HKR2.out hkp)
 clear hs2
 have HM4:=Lib.hid (HF.out w3 HS3.out.2 HS3.out.1)
 cases RES0 with
 | error c =>
  have HRES : Hid (RES = .error c):=HR.out
  go_wp2_with fail
  refine HM4.out.mono ?_
  rintro en w4 ⟨hc0,k1,a1,n1,c1,b1,m1,d1,lo1,ls1,hi1,hs1,op1,nx1,dq1,rfl,hd1,hs2⟩
  have HS4:=Lib.hid (RP.same HS3.out hs2)
  have HKR4:=Lib.hid (hs2.at HKR3.out hkp)
  have HC0:=Lib.hid hc0
  have HD1:=Lib.hid hd1
  obtain ⟨kv,hkv⟩ : ∃ kv,kv = w4.heap.size:=⟨_,rfl⟩
  have hkvl : w.heap.size < kv:=by have:=(Array.getElem?_eq_some_iff.1 HKR4.out).1; omega
  have hkvp : kv ≠ pb:=by have:=HB.out.1; omega
  obtain ⟨w5,hw5⟩ : ∃ w5,w5 = w4.alloc (.cells #[.int .u8 k1,.slice a1 n1 c1,.slice b1 m1 d1,.int .i64 lo1,.bool ls1,.int .i64 hi1,.bool hs1,.bool op1] 28):=⟨_,rfl⟩
  have HS5 : Hid (Same pb tb w w5 L stop nx1 dq1 c.1 c.2):=by rw [Hid,hw5]; exact HS4.out.alloc _
  have HKR5 : Hid (w5.heap[w.heap.size]? = some (.cells #[.int .u8 0,.slice none 0 0,.slice none 0 0,.int .i64 0,.bool false,.int .i64 0,.bool false,.bool false] 28 (0,0))):=by rw [Hid,hw5]; exact z0d HKR4.out
  have HKV5 : Hid (w5.heap[kv]? = some (.cells #[.int .u8 k1,.slice a1 n1 c1,.slice b1 m1 d1,.int .i64 lo1,.bool ls1,.int .i64 hi1,.bool hs1,.bool op1] 28 (0,0))):=by rw [Hid,hw5]; exact z06 hkv
  have HW5:=Lib.hid hw5.symm
  have HKW:=Lib.hid hkv.symm
  clear hs2 hc0 hd1 hkv hw5
  go_upto_region 7 with fail
  rw [HW5.out,HKW.out]
  clear HW5 HKW
  have HM6:=Lib.hid (z1v pb tb L L stop stop nx1 dq1 c.1 c.2 (by have:=HD1.out.1; omega) (by have:=HD1.out.2; have:=HD.out; omega) ⟨#[62]⟩ w5 (z0i pb tb L stop nx1 dq1 c.1 c.2 ⟨#[62]⟩ HC0.out w5 HS5.out.1))
  go_wp2_with fail
  refine HM6.out.mono ?_
  rintro en w6 ⟨rfl,hs2⟩
  have HS6:=Lib.hid (RP.same HS5.out hs2)
  have HKR6:=Lib.hid (hs2.at HKR5.out hkp)
  have HKV6:=Lib.hid (hs2.at HKV5.out hkvp)
  clear hs2
  have HM7:=Lib.hid (z0i pb tb L stop nx1 (dq1 - 1) c.1 c.2 ⟨#[95]⟩ HC0.out w6 HS6.out.1)
  go_wp2_with fail
  refine HM7.out.mono ?_
  rintro en w7 ⟨rfl,hs2⟩
  have HS7:=Lib.hid (RP.same HS6.out hs2)
  have HKR7:=Lib.hid (hs2.at HKR6.out hkp)
  have HKV7:=Lib.hid (hs2.at HKV6.out hkvp)
  clear hs2
  have HS : Hid (∀ W : World,(∀ b,b = kv → W.heap[b]? = w7.heap[b]?) → W.cell? ⟨kv,0,none⟩ = some (.int .u8 k1) ∧ W.cell? ⟨kv,1,none⟩ = some (.slice a1 n1 c1) ∧ W.cell? ⟨kv,2,none⟩ = some (.slice b1 m1 d1) ∧ W.cell? ⟨kv,3,none⟩ = some (.int .i64 lo1) ∧ W.cell? ⟨kv,4,none⟩ = some (.bool ls1) ∧ W.cell? ⟨kv,5,none⟩ = some (.int .i64 hi1) ∧ W.cell? ⟨kv,6,none⟩ = some (.bool hs1) ∧ W.cell? ⟨kv,7,none⟩ = some (.bool op1)):=by
   intro W hW
   have e:=(hW kv rfl).trans HKV7.out
   exact ⟨Lib.cell_of_heap e 0,Lib.cell_of_heap e 1,Lib.cell_of_heap e 2,Lib.cell_of_heap e 3,Lib.cell_of_heap e 4,Lib.cell_of_heap e 5,Lib.cell_of_heap e 6,Lib.cell_of_heap e 7⟩
  have hself : w7.drew.cell? ⟨kv,0,none⟩ = some (.int .u8 k1) ∧ w7.drew.cell? ⟨kv,1,none⟩ = some (.slice a1 n1 c1) ∧ w7.drew.cell? ⟨kv,2,none⟩ = some (.slice b1 m1 d1) ∧ w7.drew.cell? ⟨kv,3,none⟩ = some (.int .i64 lo1) ∧ w7.drew.cell? ⟨kv,4,none⟩ = some (.bool ls1) ∧ w7.drew.cell? ⟨kv,5,none⟩ = some (.int .i64 hi1) ∧ w7.drew.cell? ⟨kv,6,none⟩ = some (.bool hs1) ∧ w7.drew.cell? ⟨kv,7,none⟩ = some (.bool op1):=HS.out _ (fun _ _ => rfl)
  go_wp2_with fail
  refine wp_region_held_drew (S:=fun W => W.cell? ⟨kv,0,none⟩ = some (.int .u8 k1) ∧ W.cell? ⟨kv,1,none⟩ = some (.slice a1 n1 c1) ∧ W.cell? ⟨kv,2,none⟩ = some (.slice b1 m1 d1) ∧ W.cell? ⟨kv,3,none⟩ = some (.int .i64 lo1) ∧ W.cell? ⟨kv,4,none⟩ = some (.bool ls1) ∧ W.cell? ⟨kv,5,none⟩ = some (.int .i64 hi1) ∧ W.cell? ⟨kv,6,none⟩ = some (.bool hs1) ∧ W.cell? ⟨kv,7,none⟩ = some (.bool op1)) (by kernel_rfl) hself (fun hHeld => ?_)
  refine wpAnyH_take (i:=0) (v:=?_) rfl (by kernel_rfl) (by kernel_rfl) (by kernel_rfl) (fun _ _ _ h => h) (Or.inl ⟨by kernel_rfl,?_⟩) (by assumption) ?_
  rotate_left
  ·(intro w hSw; (try dsimp only at hSw); go_simp)
   with_reducible rfl
  try simp only [Act.put,List.setIfInBounds_toArray]
  refine wpAnyH_take (i:=2) (v:=?_) rfl (by kernel_rfl) (by kernel_rfl) (by kernel_rfl) (fun _ _ _ h => h) (Or.inl ⟨by kernel_rfl,?_⟩) (by assumption) ?_
  rotate_left
  ·(intro w hSw; (try dsimp only at hSw); go_simp)
   with_reducible rfl
  try simp only [Act.put]
  refine wpAnyH_ready (rs:=[1,3]) (by kernel_rfl) (by simp) ?_
  have hkvlt:=(Array.getElem?_eq_some_iff.1 HKV7.out).1
  refine AllReadyH.cons rfl (fun K hK => ?_) (AllReadyH.cons rfl (fun K hK => ?_) AllReadyH.nil)
  ·go_simp
   obtain ⟨vb,hvb⟩ : ∃ vb,vb = w7.heap.size:=⟨_,rfl⟩
   obtain ⟨w8,hw8⟩ : ∃ w8,w8 = (w7.alloc (.cells #[.int .u8 k1,.slice a1 n1 c1,.slice b1 m1 d1,.int .i64 lo1,.bool ls1,.int .i64 hi1,.bool hs1,.bool op1] 28)).drew:=⟨_,rfl⟩
   have HS8 : Hid (Same pb tb w w8 L stop (nx1) (dq1 - 1) c.1 c.2):=by rw [Hid,hw8]; exact (HS7.out.alloc _).drew
   have HKR8 : Hid (w8.heap[w.heap.size]? = some (.cells #[.int .u8 0,.slice none 0 0,.slice none 0 0,.int .i64 0,.bool false,.int .i64 0,.bool false,.bool false] 28 (0,0))):=by rw [Hid,hw8]; exact z0d (o:=(.cells #[.int .u8 k1,.slice a1 n1 c1,.slice b1 m1 d1,.int .i64 lo1,.bool ls1,.int .i64 hi1,.bool hs1,.bool op1] 28)) HKR7.out
   have HKV8 : Hid (w8.heap[kv]? = some (.cells #[.int .u8 k1,.slice a1 n1 c1,.slice b1 m1 d1,.int .i64 lo1,.bool ls1,.int .i64 hi1,.bool hs1,.bool op1] 28 (0,0))):=by rw [Hid,hw8]; exact z0d (o:=(.cells #[.int .u8 k1,.slice a1 n1 c1,.slice b1 m1 d1,.int .i64 lo1,.bool ls1,.int .i64 hi1,.bool hs1,.bool op1] 28)) HKV7.out
   have HVB8 : Hid (w8.heap[vb]? = some (.cells #[.int .u8 k1,.slice a1 n1 c1,.slice b1 m1 d1,.int .i64 lo1,.bool ls1,.int .i64 hi1,.bool hs1,.bool op1] 28 (0,0))):=by rw [Hid,hw8]; exact z06 (o:=(.cells #[.int .u8 k1,.slice a1 n1 c1,.slice b1 m1 d1,.int .i64 lo1,.bool ls1,.int .i64 hi1,.bool hs1,.bool op1] 28)) hvb
   have HO8 : Hid (∀ b,b < w7.heap.size → w8.heap[b]? = w7.heap[b]?):=by rw [Hid,hw8]; exact fun b hb => Lib.alloc_old w7 (.cells #[.int .u8 k1,.slice a1 n1 c1,.slice b1 m1 d1,.int .i64 lo1,.bool ls1,.int .i64 hi1,.bool hs1,.bool op1] 28) b hb
   have HZ8 : Hid (w7.heap.size ≤ w8.heap.size):=by rw [Hid,hw8]; show w7.heap.size ≤ (w7.alloc (.cells #[.int .u8 k1,.slice a1 n1 c1,.slice b1 m1 d1,.int .i64 lo1,.bool ls1,.int .i64 hi1,.bool hs1,.bool op1] 28)).heap.size; simp
   have hvbl : kv < vb:=by omega
   have hvbp : vb ≠ pb:=by have:=HB.out.1; omega
   have HW8:=Lib.hid hw8.symm
   have HVW:=Lib.hid hvb.symm
   clear hw8 hvb
   rw [HW8.out,HVW.out]
   clear HW8 HVW
   refine hK.out _ _ (HS.out _ (fun b hb => by subst hb; exact HO8.out _ hkvlt)) (fun _ => ?_)
   clear hK K
   try simp only [Act.put,List.setIfInBounds_toArray,List.set_cons_zero,List.set_cons_succ]
   refine wpAnyH_ready (rs:=[3]) (by kernel_rfl) (by simp) ?_
   refine AllReadyH.cons rfl (fun K hK => ?_) AllReadyH.nil
   go_simp
   have HI:=Lib.hid (z1g pb tb L stop _ (dq1 - 1) c.1 c.2 HC0.out _ HS8.out.1)
   refine HI.out.mono ?_
   rintro en w9 ⟨i,rfl,hs9⟩
   have HS9:=Lib.hid (RP.same HS8.out hs9)
   have HKR9:=Lib.hid (hs9.at HKR8.out hkp)
   have HKV9:=Lib.hid (hs9.at HKV8.out hkvp)
   have HVB9:=Lib.hid (hs9.at HVB8.out hvbp)
   have HO9 : Hid (∀ b,b < w7.heap.size → b ≠ pb → w9.heap[b]? = w7.heap[b]?):=fun b hb hp => (hs9.2.2.2.2.2 b (by have:=HZ8.out; omega) hp).trans (HO8.out b hb)
   have HZ9 : Hid (w7.heap.size ≤ w9.heap.size):=Nat.le_trans HZ8.out hs9.size
   clear hs9
   unfold Spn.val
   dsimp only
   refine hK.out _ _ (HS.out _ (fun b hb => by subst hb; exact HKV9.out.trans HKV7.out.symm)) (fun _ => ?_)
   clear hK K
   try simp only [Act.put,List.setIfInBounds_toArray,List.set_cons_zero,List.set_cons_succ]
   refine wpAnyH_take (i:=4) (v:=?_) rfl (by kernel_rfl) (by kernel_rfl) (by kernel_rfl) (fun _ _ _ h => h) (Or.inl ⟨by kernel_rfl,?_⟩) (by assumption) ?_
   rotate_left
   ·(intro w hSw; (try dsimp only at hSw); go_simp)
    with_reducible rfl
   try simp only [Act.put,List.setIfInBounds_toArray]
   have hkr:=HKR9.out
   obtain ⟨xe0,xe1,xe2,xe3,xe4,xe5,xe6,xe7,xf0,xf1,xf2,xf3,xf4,xf5,xf6,xf7⟩:=cf8 hkr
   have hltz:=(Array.getElem?_eq_some_iff.1 hkr).1
   have HAT : Hid ((set8 w9 w.heap.size (.int .u8 6) (.slice none 0 0) (.slice (some ⟨vb,0,none⟩) 1 1) (.int .i64 i.low) (.bool i.ls) (.int .i64 i.high) (.bool i.hs) (.bool i.op)).heap[w.heap.size]? = some (.cells #[.int .u8 6,.slice none 0 0,.slice (some ⟨vb,0,none⟩) 1 1,.int .i64 i.low,.bool i.ls,.int .i64 i.high,.bool i.hs,.bool i.op] 28 (0,0))):=z0c hkr _ _ _ _ _ _ _ _ 
   have HOUT : Hid (OutRX pb tb L stop deep bad w (.error c) (.returned (.agg #[.int .u8 6,.slice none 0 0,.slice (some ⟨vb,0,none⟩) 1 1,.int .i64 i.low,.bool i.ls,.int .i64 i.high,.bool i.hs,.bool i.op])) (set8 w9 w.heap.size (.int .u8 6) (.slice none 0 0) (.slice (some ⟨vb,0,none⟩) 1 1) (.int .i64 i.low) (.bool i.ls) (.int .i64 i.high) (.bool i.hs) (.bool i.op))):=⟨HC0.out,ErX.of (by have:=HD1.out; push_cast at this; omega) (HS9.out.set8 (Nat.le_refl _) HB.out _ _ _ _ _ _ _ _)⟩
   have HSL:=HS.out (set8 w9 w.heap.size (.int .u8 6) (.slice none 0 0) (.slice (some ⟨vb,0,none⟩) 1 1) (.int .i64 i.low) (.bool i.ls) (.int .i64 i.high) (.bool i.hs) (.bool i.op)) (fun b hb => by subst hb; exact (z03 _ _ _ _ _ _ _ _ _ _ _ (by omega)).trans (HKV9.out.trans HKV7.out.symm))
   clear hkr
   refine wpAnyH_ready (rs:=[5]) (by kernel_rfl) (by simp) ?_
   refine AllReadyH.cons rfl (fun K hK => ?_) AllReadyH.nil
   go_simp
   refine hK.out _ _ HSL (fun _ => ?_)
   clear hK K HSL
   try simp only [Act.put,List.setIfInBounds_toArray,List.set_cons_zero,List.set_cons_succ]
   refine wpAnyH_done (by kernel_rfl) ?_ _
   go_wp2_with fail
   refine bodyPost_ret (results_cell_row rfl _ _ _ _ _ _ _ rfl HAT.out Tryz.underlying28 rfl (by kernel_rfl)) rfl ?_
   rw [HRES.out]
   exact HOUT.out
  ·go_simp
   have HS7d : Hid (Same pb tb w w7.drew L stop (nx1) (dq1 - 1) c.1 c.2):=HS7.out.drew
   have HI:=Lib.hid (z1g pb tb L stop _ (dq1 - 1) c.1 c.2 HC0.out _ HS7d.out.1)
   refine HI.out.mono ?_
   rintro en w8 ⟨i,rfl,hs9⟩
   have HS8:=Lib.hid (RP.same HS7d.out hs9)
   have HKR8 : Hid (w8.heap[w.heap.size]? = some (.cells #[.int .u8 0,.slice none 0 0,.slice none 0 0,.int .i64 0,.bool false,.int .i64 0,.bool false,.bool false] 28 (0,0))):=hs9.at (show w7.drew.heap[w.heap.size]? = _ from HKR7.out) hkp
   have HKV8 : Hid (w8.heap[kv]? = some (.cells #[.int .u8 k1,.slice a1 n1 c1,.slice b1 m1 d1,.int .i64 lo1,.bool ls1,.int .i64 hi1,.bool hs1,.bool op1] 28 (0,0))):=hs9.at (show w7.drew.heap[kv]? = _ from HKV7.out) hkvp
   have HO8 : Hid (∀ b,b < w7.heap.size → b ≠ pb → w8.heap[b]? = w7.heap[b]?):=fun b hb hp => hs9.2.2.2.2.2 b hb hp
   have HZ8 : Hid (w7.heap.size ≤ w8.heap.size):=hs9.size
   clear hs9
   unfold Spn.val
   dsimp only
   refine hK.out _ _ (HS.out _ (fun b hb => by subst hb; exact HKV8.out.trans HKV7.out.symm)) (fun _ => ?_)
   clear hK K
   try simp only [Act.put,List.setIfInBounds_toArray,List.set_cons_zero,List.set_cons_succ]
   refine wpAnyH_ready (rs:=[1]) (by kernel_rfl) (by simp) ?_
   refine AllReadyH.cons rfl (fun K hK => ?_) AllReadyH.nil
   go_simp
   obtain ⟨vb,hvb⟩ : ∃ vb,vb = w8.heap.size:=⟨_,rfl⟩
   obtain ⟨w9,hw9⟩ : ∃ w9,w9 = w8.alloc (.cells #[.int .u8 k1,.slice a1 n1 c1,.slice b1 m1 d1,.int .i64 lo1,.bool ls1,.int .i64 hi1,.bool hs1,.bool op1] 28):=⟨_,rfl⟩
   have HS9 : Hid (Same pb tb w w9 L stop (nx1) (dq1 - 1) c.1 c.2):=by rw [Hid,hw9]; exact HS8.out.alloc _
   have HKR9 : Hid (w9.heap[w.heap.size]? = some (.cells #[.int .u8 0,.slice none 0 0,.slice none 0 0,.int .i64 0,.bool false,.int .i64 0,.bool false,.bool false] 28 (0,0))):=by rw [Hid,hw9]; exact z0d HKR8.out
   have HKV9 : Hid (w9.heap[kv]? = some (.cells #[.int .u8 k1,.slice a1 n1 c1,.slice b1 m1 d1,.int .i64 lo1,.bool ls1,.int .i64 hi1,.bool hs1,.bool op1] 28 (0,0))):=by rw [Hid,hw9]; exact z0d HKV8.out
   have HVB9 : Hid (w9.heap[vb]? = some (.cells #[.int .u8 k1,.slice a1 n1 c1,.slice b1 m1 d1,.int .i64 lo1,.bool ls1,.int .i64 hi1,.bool hs1,.bool op1] 28 (0,0))):=by rw [Hid,hw9]; exact z06 hvb
   have HO9 : Hid (∀ b,b < w7.heap.size → b ≠ pb → w9.heap[b]? = w7.heap[b]?):=by rw [Hid,hw9]; exact fun b hb hp => (Lib.alloc_old _ _ _ (by have:=HZ8.out; omega)).trans (HO8.out b hb hp)
   have HZ9 : Hid (w7.heap.size ≤ w9.heap.size):=by rw [Hid,hw9]; have:=HZ8.out; simp; omega
   have hvbl : kv < vb:=by have:=HZ8.out; omega
   have hvbp : vb ≠ pb:=by have:=HB.out.1; omega
   have HW9:=Lib.hid hw9.symm
   have HVW:=Lib.hid hvb.symm
   clear hw9 hvb
   rw [HW9.out,HVW.out]
   clear HW9 HVW
   refine hK.out _ _ (HS.out _ (fun b hb => by subst hb; exact HKV9.out.trans HKV7.out.symm)) (fun _ => ?_)
   clear hK K
   try simp only [Act.put,List.setIfInBounds_toArray,List.set_cons_zero,List.set_cons_succ]
   refine wpAnyH_take (i:=4) (v:=?_) rfl (by kernel_rfl) (by kernel_rfl) (by kernel_rfl) (fun _ _ _ h => h) (Or.inl ⟨by kernel_rfl,?_⟩) (by assumption) ?_
   rotate_left
   ·(intro w hSw; (try dsimp only at hSw); go_simp)
    with_reducible rfl
   try simp only [Act.put,List.setIfInBounds_toArray]
   have hkr:=HKR9.out
   obtain ⟨xe0,xe1,xe2,xe3,xe4,xe5,xe6,xe7,xf0,xf1,xf2,xf3,xf4,xf5,xf6,xf7⟩:=cf8 hkr
   have hltz:=(Array.getElem?_eq_some_iff.1 hkr).1
   have HAT : Hid ((set8 w9 w.heap.size (.int .u8 6) (.slice none 0 0) (.slice (some ⟨vb,0,none⟩) 1 1) (.int .i64 i.low) (.bool i.ls) (.int .i64 i.high) (.bool i.hs) (.bool i.op)).heap[w.heap.size]? = some (.cells #[.int .u8 6,.slice none 0 0,.slice (some ⟨vb,0,none⟩) 1 1,.int .i64 i.low,.bool i.ls,.int .i64 i.high,.bool i.hs,.bool i.op] 28 (0,0))):=z0c hkr _ _ _ _ _ _ _ _ 
   have HOUT : Hid (OutRX pb tb L stop deep bad w (.error c) (.returned (.agg #[.int .u8 6,.slice none 0 0,.slice (some ⟨vb,0,none⟩) 1 1,.int .i64 i.low,.bool i.ls,.int .i64 i.high,.bool i.hs,.bool i.op])) (set8 w9 w.heap.size (.int .u8 6) (.slice none 0 0) (.slice (some ⟨vb,0,none⟩) 1 1) (.int .i64 i.low) (.bool i.ls) (.int .i64 i.high) (.bool i.hs) (.bool i.op))):=⟨HC0.out,ErX.of (by have:=HD1.out; push_cast at this; omega) (HS9.out.set8 (Nat.le_refl _) HB.out _ _ _ _ _ _ _ _)⟩
   have HSL:=HS.out (set8 w9 w.heap.size (.int .u8 6) (.slice none 0 0) (.slice (some ⟨vb,0,none⟩) 1 1) (.int .i64 i.low) (.bool i.ls) (.int .i64 i.high) (.bool i.hs) (.bool i.op)) (fun b hb => by subst hb; exact (z03 _ _ _ _ _ _ _ _ _ _ _ (by omega)).trans (HKV9.out.trans HKV7.out.symm))
   clear hkr
   refine wpAnyH_ready (rs:=[5]) (by kernel_rfl) (by simp) ?_
   refine AllReadyH.cons rfl (fun K hK => ?_) AllReadyH.nil
   go_simp
   refine hK.out _ _ HSL (fun _ => ?_)
   clear hK K HSL
   try simp only [Act.put,List.setIfInBounds_toArray,List.set_cons_zero,List.set_cons_succ]
   refine wpAnyH_done (by kernel_rfl) ?_ _
   go_wp2_with fail
   refine bodyPost_ret (results_cell_row rfl _ _ _ _ _ _ _ rfl HAT.out Tryz.underlying28 rfl (by kernel_rfl)) rfl ?_
   rw [HRES.out]
   exact HOUT.out
 | ok xr =>
  obtain ⟨x,r⟩:=xr
  go_wp2_with fail
  refine HM4.out.mono ?_
  rintro en w4 ho
  obtain ⟨k1,a1,n1,c1,b1,m1,d1,lo1,ls1,hi1,hs1,op1,nx1,rfl,hf,hr,hs2⟩:=OutRX.ok ho
  have HS4:=Lib.hid (RP.same HS3.out hs2)
  have HKR4:=Lib.hid (hs2.at HKR3.out hkp)
  obtain ⟨kv,hkv⟩ : ∃ kv,kv = w4.heap.size:=⟨_,rfl⟩
  have hkvl : w.heap.size < kv:=by have:=(Array.getElem?_eq_some_iff.1 HKR4.out).1; omega
  have hkvp : kv ≠ pb:=by have:=HB.out.1; omega
  obtain ⟨w5,hw5⟩ : ∃ w5,w5 = w4.alloc (.cells #[.int .u8 k1,.slice a1 n1 c1,.slice b1 m1 d1,.int .i64 lo1,.bool ls1,.int .i64 hi1,.bool hs1,.bool op1] 28):=⟨_,rfl⟩
  have HS5 : Hid (Same pb tb w w5 L stop nx1 ((deep + 1 : Nat) : Int) 0 bad):=by rw [Hid,hw5]; exact HS4.out.alloc _
  have HKR5 : Hid (w5.heap[w.heap.size]? = some (.cells #[.int .u8 0,.slice none 0 0,.slice none 0 0,.int .i64 0,.bool false,.int .i64 0,.bool false,.bool false] 28 (0,0))):=by rw [Hid,hw5]; exact z0d HKR4.out
  have HKV5 : Hid (w5.heap[kv]? = some (.cells #[.int .u8 k1,.slice a1 n1 c1,.slice b1 m1 d1,.int .i64 lo1,.bool ls1,.int .i64 hi1,.bool hs1,.bool op1] 28 (0,0))):=by rw [Hid,hw5]; exact z06 hkv
  have hsz3:=HS3.out.size
  have hk3:=(Array.getElem?_eq_some_iff.1 HKR3.out).1
  have HF5 : Hid (XI (fun b => decide (w.heap.size < b)) w5 x (.agg #[.int .u8 k1,.slice a1 n1 c1,.slice b1 m1 d1,.int .i64 lo1,.bool ls1,.int .i64 hi1,.bool hs1,.bool op1])):=by
   rw [Hid,hw5]
   refine hf.go ⟨by simp,fun b hb hpn => ⟨?_,Lib.alloc_old _ _ _ hb⟩⟩
   have : w3.heap.size ≤ b:=of_decide_eq_true hpn
   exact decide_eq_true (by omega)
  have HW5:=Lib.hid hw5.symm
  have HKW:=Lib.hid hkv.symm
  have HRR:=Lib.hid hr
  clear hs2 ho hf hr hkv hw5
  go_upto_region 7 with fail
  rw [HW5.out,HKW.out]
  clear HW5 HKW
  cases qs : isT [62] (z01 L stop nx1) with
  | true =>
   have hlt1:=z0z (s:=[62]) (by decide) qs
   have HR1 : Hid (RES = z4p x (z01 L stop (nx1 + 1))):=by
    rw [Hid,HR.out]; show z1y (if isT [62] r = true then _ else _) _ = _; rw [HRR.out,if_pos qs,z0p hlt1]; rfl
   have HM6:=Lib.hid (z1v pb tb L L stop stop (nx1 + 1) ((deep + 1 : Nat) : Int) 0 bad (by omega) (by have:=HD.out; omega) ⟨#[62]⟩ w5 (z1q pb tb L stop nx1 ((deep + 1 : Nat) : Int) bad ⟨#[62]⟩ (by decide) w5 HS5.out.1 qs))
   rw [show ((deep + 1 : Nat) : Int) - 1 = (deep : Int) by omega] at HM6
   clear qs hlt1
   go_wp2_with fail
   refine HM6.out.mono ?_
   rintro en w6 ⟨rfl,hs2⟩
   have HS6:=Lib.hid (RP.same HS5.out hs2)
   have HKR6:=Lib.hid (hs2.at HKR5.out hkp)
   have HKV6:=Lib.hid (hs2.at HKV5.out hkvp)
   have HBT6:=Lib.hid hs2.2
   clear hs2
   have HF6 : Hid (XI (fun b => decide (w.heap.size < b)) w6 x (.agg #[.int .u8 k1,.slice a1 n1 c1,.slice b1 m1 d1,.int .i64 lo1,.bool ls1,.int .i64 hi1,.bool hs1,.bool op1])):=by
    refine HF5.out.go ⟨HBT6.out.2.2.2.1,fun b hb hpn => ⟨hpn,?_⟩⟩
    have:=of_decide_eq_true hpn
    have:=HB.out.1
    exact HBT6.out.2.2.2.2 b hb (by omega)
   cases qt : isT [95] (z01 L stop (nx1 + 1)) with
   | true =>
    have hlt2:=z0z (s:=[95]) (by decide) qt
    obtain ⟨RI,hRI⟩ : ∃ RI,RI = z11 (z01 L stop (nx1 + 1 + 1)):=⟨_,rfl⟩
    have HR2 : Hid (RES = z1y RI fun i r => .ok (.mk 6 [] [x] i,r)):=by
     rw [Hid,HR1.out,hRI]; unfold z4p; rw [if_pos qt,z0p hlt2]
    have HRI:=Lib.hid hRI.symm
    have HM7:=Lib.hid (z1q pb tb L stop (nx1 + 1) deep bad ⟨#[95]⟩ (by decide) w6 HS6.out.1 qt)
    clear qt hlt2 hRI
    go_wp2_with fail
    refine HM7.out.mono ?_
    rintro en w7 ⟨rfl,hs2⟩
    have HS7:=Lib.hid (RP.same HS6.out hs2)
    have HKR7:=Lib.hid (hs2.at HKR6.out hkp)
    have HKV7:=Lib.hid (hs2.at HKV6.out hkvp)
    have HBT7:=Lib.hid hs2.2
    clear hs2
    have HF7 : Hid (XI (fun b => decide (w.heap.size < b)) w7 x (.agg #[.int .u8 k1,.slice a1 n1 c1,.slice b1 m1 d1,.int .i64 lo1,.bool ls1,.int .i64 hi1,.bool hs1,.bool op1])):=by
     refine HF6.out.go ⟨HBT7.out.2.2.2.1,fun b hb hpn => ⟨hpn,?_⟩⟩
     have:=of_decide_eq_true hpn
     have:=HB.out.1
     exact HBT7.out.2.2.2.2 b hb (by omega)
    have HS : Hid (∀ W : World,(∀ b,b = kv → W.heap[b]? = w7.heap[b]?) → W.cell? ⟨kv,0,none⟩ = some (.int .u8 k1) ∧ W.cell? ⟨kv,1,none⟩ = some (.slice a1 n1 c1) ∧ W.cell? ⟨kv,2,none⟩ = some (.slice b1 m1 d1) ∧ W.cell? ⟨kv,3,none⟩ = some (.int .i64 lo1) ∧ W.cell? ⟨kv,4,none⟩ = some (.bool ls1) ∧ W.cell? ⟨kv,5,none⟩ = some (.int .i64 hi1) ∧ W.cell? ⟨kv,6,none⟩ = some (.bool hs1) ∧ W.cell? ⟨kv,7,none⟩ = some (.bool op1)):=by
     intro W hW
     have e:=(hW kv rfl).trans HKV7.out
     exact ⟨Lib.cell_of_heap e 0,Lib.cell_of_heap e 1,Lib.cell_of_heap e 2,Lib.cell_of_heap e 3,Lib.cell_of_heap e 4,Lib.cell_of_heap e 5,Lib.cell_of_heap e 6,Lib.cell_of_heap e 7⟩
    have hself : w7.drew.cell? ⟨kv,0,none⟩ = some (.int .u8 k1) ∧ w7.drew.cell? ⟨kv,1,none⟩ = some (.slice a1 n1 c1) ∧ w7.drew.cell? ⟨kv,2,none⟩ = some (.slice b1 m1 d1) ∧ w7.drew.cell? ⟨kv,3,none⟩ = some (.int .i64 lo1) ∧ w7.drew.cell? ⟨kv,4,none⟩ = some (.bool ls1) ∧ w7.drew.cell? ⟨kv,5,none⟩ = some (.int .i64 hi1) ∧ w7.drew.cell? ⟨kv,6,none⟩ = some (.bool hs1) ∧ w7.drew.cell? ⟨kv,7,none⟩ = some (.bool op1):=HS.out _ (fun _ _ => rfl)
    go_wp2_with fail
    refine wp_region_held_drew (S:=fun W => W.cell? ⟨kv,0,none⟩ = some (.int .u8 k1) ∧ W.cell? ⟨kv,1,none⟩ = some (.slice a1 n1 c1) ∧ W.cell? ⟨kv,2,none⟩ = some (.slice b1 m1 d1) ∧ W.cell? ⟨kv,3,none⟩ = some (.int .i64 lo1) ∧ W.cell? ⟨kv,4,none⟩ = some (.bool ls1) ∧ W.cell? ⟨kv,5,none⟩ = some (.int .i64 hi1) ∧ W.cell? ⟨kv,6,none⟩ = some (.bool hs1) ∧ W.cell? ⟨kv,7,none⟩ = some (.bool op1)) (by kernel_rfl) hself (fun hHeld => ?_)
    refine wpAnyH_take (i:=0) (v:=?_) rfl (by kernel_rfl) (by kernel_rfl) (by kernel_rfl) (fun _ _ _ h => h) (Or.inl ⟨by kernel_rfl,?_⟩) (by assumption) ?_
    rotate_left
    ·(intro w hSw; (try dsimp only at hSw); go_simp)
     with_reducible rfl
    try simp only [Act.put,List.setIfInBounds_toArray]
    refine wpAnyH_take (i:=2) (v:=?_) rfl (by kernel_rfl) (by kernel_rfl) (by kernel_rfl) (fun _ _ _ h => h) (Or.inl ⟨by kernel_rfl,?_⟩) (by assumption) ?_
    rotate_left
    ·(intro w hSw; (try dsimp only at hSw); go_simp)
     with_reducible rfl
    try simp only [Act.put]
    refine wpAnyH_ready (rs:=[1,3]) (by kernel_rfl) (by simp) ?_
    have hkvlt:=(Array.getElem?_eq_some_iff.1 HKV7.out).1
    refine AllReadyH.cons rfl (fun K hK => ?_) (AllReadyH.cons rfl (fun K hK => ?_) AllReadyH.nil)
    ·go_simp
     obtain ⟨vb,hvb⟩ : ∃ vb,vb = w7.heap.size:=⟨_,rfl⟩
     obtain ⟨w8,hw8⟩ : ∃ w8,w8 = (w7.alloc (.cells #[.int .u8 k1,.slice a1 n1 c1,.slice b1 m1 d1,.int .i64 lo1,.bool ls1,.int .i64 hi1,.bool hs1,.bool op1] 28)).drew:=⟨_,rfl⟩
     have HS8 : Hid (Same pb tb w w8 L stop (nx1 + 1 + 1) deep 0 bad):=by rw [Hid,hw8]; exact (HS7.out.alloc _).drew
     have HKR8 : Hid (w8.heap[w.heap.size]? = some (.cells #[.int .u8 0,.slice none 0 0,.slice none 0 0,.int .i64 0,.bool false,.int .i64 0,.bool false,.bool false] 28 (0,0))):=by rw [Hid,hw8]; exact z0d (o:=(.cells #[.int .u8 k1,.slice a1 n1 c1,.slice b1 m1 d1,.int .i64 lo1,.bool ls1,.int .i64 hi1,.bool hs1,.bool op1] 28)) HKR7.out
     have HKV8 : Hid (w8.heap[kv]? = some (.cells #[.int .u8 k1,.slice a1 n1 c1,.slice b1 m1 d1,.int .i64 lo1,.bool ls1,.int .i64 hi1,.bool hs1,.bool op1] 28 (0,0))):=by rw [Hid,hw8]; exact z0d (o:=(.cells #[.int .u8 k1,.slice a1 n1 c1,.slice b1 m1 d1,.int .i64 lo1,.bool ls1,.int .i64 hi1,.bool hs1,.bool op1] 28)) HKV7.out
     have HVB8 : Hid (w8.heap[vb]? = some (.cells #[.int .u8 k1,.slice a1 n1 c1,.slice b1 m1 d1,.int .i64 lo1,.bool ls1,.int .i64 hi1,.bool hs1,.bool op1] 28 (0,0))):=by rw [Hid,hw8]; exact z06 (o:=(.cells #[.int .u8 k1,.slice a1 n1 c1,.slice b1 m1 d1,.int .i64 lo1,.bool ls1,.int .i64 hi1,.bool hs1,.bool op1] 28)) hvb
     have HO8 : Hid (∀ b,b < w7.heap.size → w8.heap[b]? = w7.heap[b]?):=by rw [Hid,hw8]; exact fun b hb => Lib.alloc_old w7 (.cells #[.int .u8 k1,.slice a1 n1 c1,.slice b1 m1 d1,.int .i64 lo1,.bool ls1,.int .i64 hi1,.bool hs1,.bool op1] 28) b hb
     have HZ8 : Hid (w7.heap.size ≤ w8.heap.size):=by rw [Hid,hw8]; show w7.heap.size ≤ (w7.alloc (.cells #[.int .u8 k1,.slice a1 n1 c1,.slice b1 m1 d1,.int .i64 lo1,.bool ls1,.int .i64 hi1,.bool hs1,.bool op1] 28)).heap.size; simp
     have hvbl : kv < vb:=by omega
     have hvbp : vb ≠ pb:=by have:=HB.out.1; omega
     have HW8:=Lib.hid hw8.symm
     have HVW:=Lib.hid hvb.symm
     clear hw8 hvb
     rw [HW8.out,HVW.out]
     clear HW8 HVW
     refine hK.out _ _ (HS.out _ (fun b hb => by subst hb; exact HO8.out _ hkvlt)) (fun _ => ?_)
     clear hK K
     try simp only [Act.put,List.setIfInBounds_toArray,List.set_cons_zero,List.set_cons_succ]
     refine wpAnyH_ready (rs:=[3]) (by kernel_rfl) (by simp) ?_
     refine AllReadyH.cons rfl (fun K hK => ?_) AllReadyH.nil
     go_simp
     have HI:=Lib.hid (z4e pb tb L stop _ deep bad _ HS8.out.1)
     rw [HRI.out] at HI
     cases RI with
     | error c =>
      refine HI.out.mono ?_
      rintro en w9 ⟨hc0,i,nx9,rfl,hs9⟩
      have HC0:=Lib.hid hc0
      clear hc0
      have HRES : Hid (RES = .error c):=HR2.out
      have HS9:=Lib.hid (RP.same HS8.out hs9)
      have HKR9:=Lib.hid (hs9.at HKR8.out hkp)
      have HKV9:=Lib.hid (hs9.at HKV8.out hkvp)
      have HVB9:=Lib.hid (hs9.at HVB8.out hvbp)
      have HO9 : Hid (∀ b,b < w7.heap.size → b ≠ pb → w9.heap[b]? = w7.heap[b]?):=fun b hb hp => (hs9.2.2.2.2.2 b (by have:=HZ8.out; omega) hp).trans (HO8.out b hb)
      have HZ9 : Hid (w7.heap.size ≤ w9.heap.size):=Nat.le_trans HZ8.out hs9.size
      clear hs9
      unfold Spn.val
      dsimp only
      refine hK.out _ _ (HS.out _ (fun b hb => by subst hb; exact HKV9.out.trans HKV7.out.symm)) (fun _ => ?_)
      clear hK K
      try simp only [Act.put,List.setIfInBounds_toArray,List.set_cons_zero,List.set_cons_succ]
      refine wpAnyH_take (i:=4) (v:=?_) rfl (by kernel_rfl) (by kernel_rfl) (by kernel_rfl) (fun _ _ _ h => h) (Or.inl ⟨by kernel_rfl,?_⟩) (by assumption) ?_
      rotate_left
      ·(intro w hSw; (try dsimp only at hSw); go_simp)
       with_reducible rfl
      try simp only [Act.put,List.setIfInBounds_toArray]
      have hkr:=HKR9.out
      obtain ⟨xe0,xe1,xe2,xe3,xe4,xe5,xe6,xe7,xf0,xf1,xf2,xf3,xf4,xf5,xf6,xf7⟩:=cf8 hkr
      have hltz:=(Array.getElem?_eq_some_iff.1 hkr).1
      have HAT : Hid ((set8 w9 w.heap.size (.int .u8 6) (.slice none 0 0) (.slice (some ⟨vb,0,none⟩) 1 1) (.int .i64 i.low) (.bool i.ls) (.int .i64 i.high) (.bool i.hs) (.bool i.op)).heap[w.heap.size]? = some (.cells #[.int .u8 6,.slice none 0 0,.slice (some ⟨vb,0,none⟩) 1 1,.int .i64 i.low,.bool i.ls,.int .i64 i.high,.bool i.hs,.bool i.op] 28 (0,0))):=z0c hkr _ _ _ _ _ _ _ _ 
      have HOUT : Hid (OutRX pb tb L stop deep bad w (.error c) (.returned (.agg #[.int .u8 6,.slice none 0 0,.slice (some ⟨vb,0,none⟩) 1 1,.int .i64 i.low,.bool i.ls,.int .i64 i.high,.bool i.hs,.bool i.op])) (set8 w9 w.heap.size (.int .u8 6) (.slice none 0 0) (.slice (some ⟨vb,0,none⟩) 1 1) (.int .i64 i.low) (.bool i.ls) (.int .i64 i.high) (.bool i.hs) (.bool i.op))):=⟨HC0.out,ErX.of (by omega) (HS9.out.set8 (Nat.le_refl _) HB.out _ _ _ _ _ _ _ _)⟩
      have HSL:=HS.out (set8 w9 w.heap.size (.int .u8 6) (.slice none 0 0) (.slice (some ⟨vb,0,none⟩) 1 1) (.int .i64 i.low) (.bool i.ls) (.int .i64 i.high) (.bool i.hs) (.bool i.op)) (fun b hb => by subst hb; exact (z03 _ _ _ _ _ _ _ _ _ _ _ (by omega)).trans (HKV9.out.trans HKV7.out.symm))
      clear hkr
      refine wpAnyH_ready (rs:=[5]) (by kernel_rfl) (by simp) ?_
      refine AllReadyH.cons rfl (fun K hK => ?_) AllReadyH.nil
      go_simp
      refine hK.out _ _ HSL (fun _ => ?_)
      clear hK K HSL
      try simp only [Act.put,List.setIfInBounds_toArray,List.set_cons_zero,List.set_cons_succ]
      refine wpAnyH_done (by kernel_rfl) ?_ _
      go_wp2_with fail
      refine bodyPost_ret (results_cell_row rfl _ _ _ _ _ _ _ rfl HAT.out Tryz.underlying28 rfl (by kernel_rfl)) rfl ?_
      rw [HRES.out]
      exact HOUT.out
     | ok ir =>
      obtain ⟨i,ri⟩:=ir
      refine HI.out.mono ?_
      rintro en w9 ⟨nx9,rfl,hri,hs9⟩
      have HRES : Hid (RES = .ok (.mk 6 [] [x] i,z01 L stop nx9)):=by rw [Hid,HR2.out,hri]; rfl
      clear hri
      have HS9:=Lib.hid (RP.same HS8.out hs9)
      have HKR9:=Lib.hid (hs9.at HKR8.out hkp)
      have HKV9:=Lib.hid (hs9.at HKV8.out hkvp)
      have HVB9:=Lib.hid (hs9.at HVB8.out hvbp)
      have HO9 : Hid (∀ b,b < w7.heap.size → b ≠ pb → w9.heap[b]? = w7.heap[b]?):=fun b hb hp => (hs9.2.2.2.2.2 b (by have:=HZ8.out; omega) hp).trans (HO8.out b hb)
      have HZ9 : Hid (w7.heap.size ≤ w9.heap.size):=Nat.le_trans HZ8.out hs9.size
      clear hs9
      unfold Spn.val
      dsimp only
      refine hK.out _ _ (HS.out _ (fun b hb => by subst hb; exact HKV9.out.trans HKV7.out.symm)) (fun _ => ?_)
      clear hK K
      try simp only [Act.put,List.setIfInBounds_toArray,List.set_cons_zero,List.set_cons_succ]
      refine wpAnyH_take (i:=4) (v:=?_) rfl (by kernel_rfl) (by kernel_rfl) (by kernel_rfl) (fun _ _ _ h => h) (Or.inl ⟨by kernel_rfl,?_⟩) (by assumption) ?_
      rotate_left
      ·(intro w hSw; (try dsimp only at hSw); go_simp)
       with_reducible rfl
      try simp only [Act.put,List.setIfInBounds_toArray]
      have hkr:=HKR9.out
      obtain ⟨xe0,xe1,xe2,xe3,xe4,xe5,xe6,xe7,xf0,xf1,xf2,xf3,xf4,xf5,xf6,xf7⟩:=cf8 hkr
      have hltz:=(Array.getElem?_eq_some_iff.1 hkr).1
      have HAT : Hid ((set8 w9 w.heap.size (.int .u8 6) (.slice none 0 0) (.slice (some ⟨vb,0,none⟩) 1 1) (.int .i64 i.low) (.bool i.ls) (.int .i64 i.high) (.bool i.hs) (.bool i.op)).heap[w.heap.size]? = some (.cells #[.int .u8 6,.slice none 0 0,.slice (some ⟨vb,0,none⟩) 1 1,.int .i64 i.low,.bool i.ls,.int .i64 i.high,.bool i.hs,.bool i.op] 28 (0,0))):=z0c hkr _ _ _ _ _ _ _ _ 
      have HOUT : Hid (OutRX pb tb L stop deep bad w (.ok (.mk 6 [] [x] i,z01 L stop nx9)) (.returned (.agg #[.int .u8 6,.slice none 0 0,.slice (some ⟨vb,0,none⟩) 1 1,.int .i64 i.low,.bool i.ls,.int .i64 i.high,.bool i.hs,.bool i.op])) (set8 w9 w.heap.size (.int .u8 6) (.slice none 0 0) (.slice (some ⟨vb,0,none⟩) 1 1) (.int .i64 i.low) (.bool i.ls) (.int .i64 i.high) (.bool i.hs) (.bool i.op))):=by
       refine ⟨_,nx9,rfl,?_,rfl,HS9.out.set8 (Nat.le_refl _) HB.out _ _ _ _ _ _ _ _⟩
       have hvl:=(Array.getElem?_eq_some_iff.1 HVB9.out).1
       have hx9 : XI (fun b => decide (w.heap.size < b)) w9 x (.agg #[.int .u8 k1,.slice a1 n1 c1,.slice b1 m1 d1,.int .i64 lo1,.bool ls1,.int .i64 hi1,.bool hs1,.bool op1]):=by
        refine HF7.out.go ⟨HZ9.out,fun b hb hpn => ⟨hpn,?_⟩⟩
        have:=of_decide_eq_true hpn
        have:=HB.out.1
        exact HO9.out b hb (by omega)
       have hx:=XI.one hx9 6 i.low i.high i.ls i.hs i.op vb 1 0 none (0,0) (decide_eq_true (by omega)) HVB9.out
       refine XI.go hx ⟨by rw [z0b]; exact Nat.le_refl _,fun b hb hpn => ?_⟩
       have:=of_decide_eq_true hpn
       exact ⟨decide_eq_true (show w.heap.size ≤ b by omega),z03 _ _ _ _ _ _ _ _ _ _ _ (by omega)⟩
      have HSL:=HS.out (set8 w9 w.heap.size (.int .u8 6) (.slice none 0 0) (.slice (some ⟨vb,0,none⟩) 1 1) (.int .i64 i.low) (.bool i.ls) (.int .i64 i.high) (.bool i.hs) (.bool i.op)) (fun b hb => by subst hb; exact (z03 _ _ _ _ _ _ _ _ _ _ _ (by omega)).trans (HKV9.out.trans HKV7.out.symm))
      clear hkr
      refine wpAnyH_ready (rs:=[5]) (by kernel_rfl) (by simp) ?_
      refine AllReadyH.cons rfl (fun K hK => ?_) AllReadyH.nil
      go_simp
      refine hK.out _ _ HSL (fun _ => ?_)
      clear hK K HSL
      try simp only [Act.put,List.setIfInBounds_toArray,List.set_cons_zero,List.set_cons_succ]
      refine wpAnyH_done (by kernel_rfl) ?_ _
      go_wp2_with fail
      refine bodyPost_ret (results_cell_row rfl _ _ _ _ _ _ _ rfl HAT.out Tryz.underlying28 rfl (by kernel_rfl)) rfl ?_
      rw [HRES.out]
      exact HOUT.out
    ·go_simp
     have HS7d : Hid (Same pb tb w w7.drew L stop (nx1 + 1 + 1) deep 0 bad):=HS7.out.drew
     have HI:=Lib.hid (z4e pb tb L stop _ deep bad _ HS7d.out.1)
     rw [HRI.out] at HI
     cases RI with
     | error c =>
      refine HI.out.mono ?_
      rintro en w8 ⟨hc0,i,nx9,rfl,hs9⟩
      have HC0:=Lib.hid hc0
      clear hc0
      have HRES : Hid (RES = .error c):=HR2.out
      have HS8:=Lib.hid (RP.same HS7d.out hs9)
      have HKR8 : Hid (w8.heap[w.heap.size]? = some (.cells #[.int .u8 0,.slice none 0 0,.slice none 0 0,.int .i64 0,.bool false,.int .i64 0,.bool false,.bool false] 28 (0,0))):=hs9.at (show w7.drew.heap[w.heap.size]? = _ from HKR7.out) hkp
      have HKV8 : Hid (w8.heap[kv]? = some (.cells #[.int .u8 k1,.slice a1 n1 c1,.slice b1 m1 d1,.int .i64 lo1,.bool ls1,.int .i64 hi1,.bool hs1,.bool op1] 28 (0,0))):=hs9.at (show w7.drew.heap[kv]? = _ from HKV7.out) hkvp
      have HO8 : Hid (∀ b,b < w7.heap.size → b ≠ pb → w8.heap[b]? = w7.heap[b]?):=fun b hb hp => hs9.2.2.2.2.2 b hb hp
      have HZ8 : Hid (w7.heap.size ≤ w8.heap.size):=hs9.size
      clear hs9
      unfold Spn.val
      dsimp only
      refine hK.out _ _ (HS.out _ (fun b hb => by subst hb; exact HKV8.out.trans HKV7.out.symm)) (fun _ => ?_)
      clear hK K
      try simp only [Act.put,List.setIfInBounds_toArray,List.set_cons_zero,List.set_cons_succ]
      refine wpAnyH_ready (rs:=[1]) (by kernel_rfl) (by simp) ?_
      refine AllReadyH.cons rfl (fun K hK => ?_) AllReadyH.nil
      go_simp
      obtain ⟨vb,hvb⟩ : ∃ vb,vb = w8.heap.size:=⟨_,rfl⟩
      obtain ⟨w9,hw9⟩ : ∃ w9,w9 = w8.alloc (.cells #[.int .u8 k1,.slice a1 n1 c1,.slice b1 m1 d1,.int .i64 lo1,.bool ls1,.int .i64 hi1,.bool hs1,.bool op1] 28):=⟨_,rfl⟩
      have HS9 : Hid (Same pb tb w w9 L stop (nx9) deep c.1 c.2):=by rw [Hid,hw9]; exact HS8.out.alloc _
      have HKR9 : Hid (w9.heap[w.heap.size]? = some (.cells #[.int .u8 0,.slice none 0 0,.slice none 0 0,.int .i64 0,.bool false,.int .i64 0,.bool false,.bool false] 28 (0,0))):=by rw [Hid,hw9]; exact z0d HKR8.out
      have HKV9 : Hid (w9.heap[kv]? = some (.cells #[.int .u8 k1,.slice a1 n1 c1,.slice b1 m1 d1,.int .i64 lo1,.bool ls1,.int .i64 hi1,.bool hs1,.bool op1] 28 (0,0))):=by rw [Hid,hw9]; exact z0d HKV8.out
      have HVB9 : Hid (w9.heap[vb]? = some (.cells #[.int .u8 k1,.slice a1 n1 c1,.slice b1 m1 d1,.int .i64 lo1,.bool ls1,.int .i64 hi1,.bool hs1,.bool op1] 28 (0,0))):=by rw [Hid,hw9]; exact z06 hvb
      have HO9 : Hid (∀ b,b < w7.heap.size → b ≠ pb → w9.heap[b]? = w7.heap[b]?):=by rw [Hid,hw9]; exact fun b hb hp => (Lib.alloc_old _ _ _ (by have:=HZ8.out; omega)).trans (HO8.out b hb hp)
      have HZ9 : Hid (w7.heap.size ≤ w9.heap.size):=by rw [Hid,hw9]; have:=HZ8.out; simp; omega
      have hvbl : kv < vb:=by have:=HZ8.out; omega
      have hvbp : vb ≠ pb:=by have:=HB.out.1; omega
      have HW9:=Lib.hid hw9.symm
      have HVW:=Lib.hid hvb.symm
      clear hw9 hvb
      rw [HW9.out,HVW.out]
      clear HW9 HVW
      refine hK.out _ _ (HS.out _ (fun b hb => by subst hb; exact HKV9.out.trans HKV7.out.symm)) (fun _ => ?_)
      clear hK K
      try simp only [Act.put,List.setIfInBounds_toArray,List.set_cons_zero,List.set_cons_succ]
      refine wpAnyH_take (i:=4) (v:=?_) rfl (by kernel_rfl) (by kernel_rfl) (by kernel_rfl) (fun _ _ _ h => h) (Or.inl ⟨by kernel_rfl,?_⟩) (by assumption) ?_
      rotate_left
      ·(intro w hSw; (try dsimp only at hSw); go_simp)
       with_reducible rfl
      try simp only [Act.put,List.setIfInBounds_toArray]
      have hkr:=HKR9.out
      obtain ⟨xe0,xe1,xe2,xe3,xe4,xe5,xe6,xe7,xf0,xf1,xf2,xf3,xf4,xf5,xf6,xf7⟩:=cf8 hkr
      have hltz:=(Array.getElem?_eq_some_iff.1 hkr).1
      have HAT : Hid ((set8 w9 w.heap.size (.int .u8 6) (.slice none 0 0) (.slice (some ⟨vb,0,none⟩) 1 1) (.int .i64 i.low) (.bool i.ls) (.int .i64 i.high) (.bool i.hs) (.bool i.op)).heap[w.heap.size]? = some (.cells #[.int .u8 6,.slice none 0 0,.slice (some ⟨vb,0,none⟩) 1 1,.int .i64 i.low,.bool i.ls,.int .i64 i.high,.bool i.hs,.bool i.op] 28 (0,0))):=z0c hkr _ _ _ _ _ _ _ _ 
      have HOUT : Hid (OutRX pb tb L stop deep bad w (.error c) (.returned (.agg #[.int .u8 6,.slice none 0 0,.slice (some ⟨vb,0,none⟩) 1 1,.int .i64 i.low,.bool i.ls,.int .i64 i.high,.bool i.hs,.bool i.op])) (set8 w9 w.heap.size (.int .u8 6) (.slice none 0 0) (.slice (some ⟨vb,0,none⟩) 1 1) (.int .i64 i.low) (.bool i.ls) (.int .i64 i.high) (.bool i.hs) (.bool i.op))):=⟨HC0.out,ErX.of (by omega) (HS9.out.set8 (Nat.le_refl _) HB.out _ _ _ _ _ _ _ _)⟩
      have HSL:=HS.out (set8 w9 w.heap.size (.int .u8 6) (.slice none 0 0) (.slice (some ⟨vb,0,none⟩) 1 1) (.int .i64 i.low) (.bool i.ls) (.int .i64 i.high) (.bool i.hs) (.bool i.op)) (fun b hb => by subst hb; exact (z03 _ _ _ _ _ _ _ _ _ _ _ (by omega)).trans (HKV9.out.trans HKV7.out.symm))
      clear hkr
      refine wpAnyH_ready (rs:=[5]) (by kernel_rfl) (by simp) ?_
      refine AllReadyH.cons rfl (fun K hK => ?_) AllReadyH.nil
      go_simp
      refine hK.out _ _ HSL (fun _ => ?_)
      clear hK K HSL
      try simp only [Act.put,List.setIfInBounds_toArray,List.set_cons_zero,List.set_cons_succ]
      refine wpAnyH_done (by kernel_rfl) ?_ _
      go_wp2_with fail
      refine bodyPost_ret (results_cell_row rfl _ _ _ _ _ _ _ rfl HAT.out Tryz.underlying28 rfl (by kernel_rfl)) rfl ?_
      rw [HRES.out]
      exact HOUT.out
     | ok ir =>
      obtain ⟨i,ri⟩:=ir
      refine HI.out.mono ?_
      rintro en w8 ⟨nx9,rfl,hri,hs9⟩
      have HRES : Hid (RES = .ok (.mk 6 [] [x] i,z01 L stop nx9)):=by rw [Hid,HR2.out,hri]; rfl
      clear hri
      have HS8:=Lib.hid (RP.same HS7d.out hs9)
      have HKR8 : Hid (w8.heap[w.heap.size]? = some (.cells #[.int .u8 0,.slice none 0 0,.slice none 0 0,.int .i64 0,.bool false,.int .i64 0,.bool false,.bool false] 28 (0,0))):=hs9.at (show w7.drew.heap[w.heap.size]? = _ from HKR7.out) hkp
      have HKV8 : Hid (w8.heap[kv]? = some (.cells #[.int .u8 k1,.slice a1 n1 c1,.slice b1 m1 d1,.int .i64 lo1,.bool ls1,.int .i64 hi1,.bool hs1,.bool op1] 28 (0,0))):=hs9.at (show w7.drew.heap[kv]? = _ from HKV7.out) hkvp
      have HO8 : Hid (∀ b,b < w7.heap.size → b ≠ pb → w8.heap[b]? = w7.heap[b]?):=fun b hb hp => hs9.2.2.2.2.2 b hb hp
      have HZ8 : Hid (w7.heap.size ≤ w8.heap.size):=hs9.size
      clear hs9
      unfold Spn.val
      dsimp only
      refine hK.out _ _ (HS.out _ (fun b hb => by subst hb; exact HKV8.out.trans HKV7.out.symm)) (fun _ => ?_)
      clear hK K
      try simp only [Act.put,List.setIfInBounds_toArray,List.set_cons_zero,List.set_cons_succ]
      refine wpAnyH_ready (rs:=[1]) (by kernel_rfl) (by simp) ?_
      refine AllReadyH.cons rfl (fun K hK => ?_) AllReadyH.nil
      go_simp
      obtain ⟨vb,hvb⟩ : ∃ vb,vb = w8.heap.size:=⟨_,rfl⟩
      obtain ⟨w9,hw9⟩ : ∃ w9,w9 = w8.alloc (.cells #[.int .u8 k1,.slice a1 n1 c1,.slice b1 m1 d1,.int .i64 lo1,.bool ls1,.int .i64 hi1,.bool hs1,.bool op1] 28):=⟨_,rfl⟩
      have HS9 : Hid (Same pb tb w w9 L stop (nx9) deep 0 bad):=by rw [Hid,hw9]; exact HS8.out.alloc _
      have HKR9 : Hid (w9.heap[w.heap.size]? = some (.cells #[.int .u8 0,.slice none 0 0,.slice none 0 0,.int .i64 0,.bool false,.int .i64 0,.bool false,.bool false] 28 (0,0))):=by rw [Hid,hw9]; exact z0d HKR8.out
      have HKV9 : Hid (w9.heap[kv]? = some (.cells #[.int .u8 k1,.slice a1 n1 c1,.slice b1 m1 d1,.int .i64 lo1,.bool ls1,.int .i64 hi1,.bool hs1,.bool op1] 28 (0,0))):=by rw [Hid,hw9]; exact z0d HKV8.out
      have HVB9 : Hid (w9.heap[vb]? = some (.cells #[.int .u8 k1,.slice a1 n1 c1,.slice b1 m1 d1,.int .i64 lo1,.bool ls1,.int .i64 hi1,.bool hs1,.bool op1] 28 (0,0))):=by rw [Hid,hw9]; exact z06 hvb
      have HO9 : Hid (∀ b,b < w7.heap.size → b ≠ pb → w9.heap[b]? = w7.heap[b]?):=by rw [Hid,hw9]; exact fun b hb hp => (Lib.alloc_old _ _ _ (by have:=HZ8.out; omega)).trans (HO8.out b hb hp)
      have HZ9 : Hid (w7.heap.size ≤ w9.heap.size):=by rw [Hid,hw9]; have:=HZ8.out; simp; omega
      have hvbl : kv < vb:=by have:=HZ8.out; omega
      have hvbp : vb ≠ pb:=by have:=HB.out.1; omega
      have HW9:=Lib.hid hw9.symm
      have HVW:=Lib.hid hvb.symm
      clear hw9 hvb
      rw [HW9.out,HVW.out]
      clear HW9 HVW
      refine hK.out _ _ (HS.out _ (fun b hb => by subst hb; exact HKV9.out.trans HKV7.out.symm)) (fun _ => ?_)
      clear hK K
      try simp only [Act.put,List.setIfInBounds_toArray,List.set_cons_zero,List.set_cons_succ]
      refine wpAnyH_take (i:=4) (v:=?_) rfl (by kernel_rfl) (by kernel_rfl) (by kernel_rfl) (fun _ _ _ h => h) (Or.inl ⟨by kernel_rfl,?_⟩) (by assumption) ?_
      rotate_left
      ·(intro w hSw; (try dsimp only at hSw); go_simp)
       with_reducible rfl
      try simp only [Act.put,List.setIfInBounds_toArray]
      have hkr:=HKR9.out
      obtain ⟨xe0,xe1,xe2,xe3,xe4,xe5,xe6,xe7,xf0,xf1,xf2,xf3,xf4,xf5,xf6,xf7⟩:=cf8 hkr
      have hltz:=(Array.getElem?_eq_some_iff.1 hkr).1
      have HAT : Hid ((set8 w9 w.heap.size (.int .u8 6) (.slice none 0 0) (.slice (some ⟨vb,0,none⟩) 1 1) (.int .i64 i.low) (.bool i.ls) (.int .i64 i.high) (.bool i.hs) (.bool i.op)).heap[w.heap.size]? = some (.cells #[.int .u8 6,.slice none 0 0,.slice (some ⟨vb,0,none⟩) 1 1,.int .i64 i.low,.bool i.ls,.int .i64 i.high,.bool i.hs,.bool i.op] 28 (0,0))):=z0c hkr _ _ _ _ _ _ _ _ 
      have HOUT : Hid (OutRX pb tb L stop deep bad w (.ok (.mk 6 [] [x] i,z01 L stop nx9)) (.returned (.agg #[.int .u8 6,.slice none 0 0,.slice (some ⟨vb,0,none⟩) 1 1,.int .i64 i.low,.bool i.ls,.int .i64 i.high,.bool i.hs,.bool i.op])) (set8 w9 w.heap.size (.int .u8 6) (.slice none 0 0) (.slice (some ⟨vb,0,none⟩) 1 1) (.int .i64 i.low) (.bool i.ls) (.int .i64 i.high) (.bool i.hs) (.bool i.op))):=by
       refine ⟨_,nx9,rfl,?_,rfl,HS9.out.set8 (Nat.le_refl _) HB.out _ _ _ _ _ _ _ _⟩
       have hvl:=(Array.getElem?_eq_some_iff.1 HVB9.out).1
       have hx9 : XI (fun b => decide (w.heap.size < b)) w9 x (.agg #[.int .u8 k1,.slice a1 n1 c1,.slice b1 m1 d1,.int .i64 lo1,.bool ls1,.int .i64 hi1,.bool hs1,.bool op1]):=by
        refine HF7.out.go ⟨HZ9.out,fun b hb hpn => ⟨hpn,?_⟩⟩
        have:=of_decide_eq_true hpn
        have:=HB.out.1
        exact HO9.out b hb (by omega)
       have hx:=XI.one hx9 6 i.low i.high i.ls i.hs i.op vb 1 0 none (0,0) (decide_eq_true (by omega)) HVB9.out
       refine XI.go hx ⟨by rw [z0b]; exact Nat.le_refl _,fun b hb hpn => ?_⟩
       have:=of_decide_eq_true hpn
       exact ⟨decide_eq_true (show w.heap.size ≤ b by omega),z03 _ _ _ _ _ _ _ _ _ _ _ (by omega)⟩
      have HSL:=HS.out (set8 w9 w.heap.size (.int .u8 6) (.slice none 0 0) (.slice (some ⟨vb,0,none⟩) 1 1) (.int .i64 i.low) (.bool i.ls) (.int .i64 i.high) (.bool i.hs) (.bool i.op)) (fun b hb => by subst hb; exact (z03 _ _ _ _ _ _ _ _ _ _ _ (by omega)).trans (HKV9.out.trans HKV7.out.symm))
      clear hkr
      refine wpAnyH_ready (rs:=[5]) (by kernel_rfl) (by simp) ?_
      refine AllReadyH.cons rfl (fun K hK => ?_) AllReadyH.nil
      go_simp
      refine hK.out _ _ HSL (fun _ => ?_)
      clear hK K HSL
      try simp only [Act.put,List.setIfInBounds_toArray,List.set_cons_zero,List.set_cons_succ]
      refine wpAnyH_done (by kernel_rfl) ?_ _
      go_wp2_with fail
      refine bodyPost_ret (results_cell_row rfl _ _ _ _ _ _ _ rfl HAT.out Tryz.underlying28 rfl (by kernel_rfl)) rfl ?_
      rw [HRES.out]
      exact HOUT.out
   | false =>
    have HRES : Hid (RES = .error (170,z05 (z01 L stop (nx1 + 1)))):=by
     rw [Hid,HR1.out]; unfold z4p; rw [if_neg (by rw [qt]; decide)]; rfl
    have HM7:=Lib.hid (z1r pb tb L stop (nx1 + 1) deep bad ⟨#[95]⟩ (by decide) w6 HS6.out.1 qt)
    clear qt
    go_wp2_with fail
    refine HM7.out.mono ?_
    rintro en w7 ⟨rfl,hs2⟩
    have HS7:=Lib.hid (RP.same HS6.out hs2)
    have HKR7:=Lib.hid (hs2.at HKR6.out hkp)
    have HKV7:=Lib.hid (hs2.at HKV6.out hkvp)
    clear hs2
    have HS : Hid (∀ W : World,(∀ b,b = kv → W.heap[b]? = w7.heap[b]?) → W.cell? ⟨kv,0,none⟩ = some (.int .u8 k1) ∧ W.cell? ⟨kv,1,none⟩ = some (.slice a1 n1 c1) ∧ W.cell? ⟨kv,2,none⟩ = some (.slice b1 m1 d1) ∧ W.cell? ⟨kv,3,none⟩ = some (.int .i64 lo1) ∧ W.cell? ⟨kv,4,none⟩ = some (.bool ls1) ∧ W.cell? ⟨kv,5,none⟩ = some (.int .i64 hi1) ∧ W.cell? ⟨kv,6,none⟩ = some (.bool hs1) ∧ W.cell? ⟨kv,7,none⟩ = some (.bool op1)):=by
     intro W hW
     have e:=(hW kv rfl).trans HKV7.out
     exact ⟨Lib.cell_of_heap e 0,Lib.cell_of_heap e 1,Lib.cell_of_heap e 2,Lib.cell_of_heap e 3,Lib.cell_of_heap e 4,Lib.cell_of_heap e 5,Lib.cell_of_heap e 6,Lib.cell_of_heap e 7⟩
    have hself : w7.drew.cell? ⟨kv,0,none⟩ = some (.int .u8 k1) ∧ w7.drew.cell? ⟨kv,1,none⟩ = some (.slice a1 n1 c1) ∧ w7.drew.cell? ⟨kv,2,none⟩ = some (.slice b1 m1 d1) ∧ w7.drew.cell? ⟨kv,3,none⟩ = some (.int .i64 lo1) ∧ w7.drew.cell? ⟨kv,4,none⟩ = some (.bool ls1) ∧ w7.drew.cell? ⟨kv,5,none⟩ = some (.int .i64 hi1) ∧ w7.drew.cell? ⟨kv,6,none⟩ = some (.bool hs1) ∧ w7.drew.cell? ⟨kv,7,none⟩ = some (.bool op1):=HS.out _ (fun _ _ => rfl)
    go_wp2_with fail
    refine wp_region_held_drew (S:=fun W => W.cell? ⟨kv,0,none⟩ = some (.int .u8 k1) ∧ W.cell? ⟨kv,1,none⟩ = some (.slice a1 n1 c1) ∧ W.cell? ⟨kv,2,none⟩ = some (.slice b1 m1 d1) ∧ W.cell? ⟨kv,3,none⟩ = some (.int .i64 lo1) ∧ W.cell? ⟨kv,4,none⟩ = some (.bool ls1) ∧ W.cell? ⟨kv,5,none⟩ = some (.int .i64 hi1) ∧ W.cell? ⟨kv,6,none⟩ = some (.bool hs1) ∧ W.cell? ⟨kv,7,none⟩ = some (.bool op1)) (by kernel_rfl) hself (fun hHeld => ?_)
    refine wpAnyH_take (i:=0) (v:=?_) rfl (by kernel_rfl) (by kernel_rfl) (by kernel_rfl) (fun _ _ _ h => h) (Or.inl ⟨by kernel_rfl,?_⟩) (by assumption) ?_
    rotate_left
    ·(intro w hSw; (try dsimp only at hSw); go_simp)
     with_reducible rfl
    try simp only [Act.put,List.setIfInBounds_toArray]
    refine wpAnyH_take (i:=2) (v:=?_) rfl (by kernel_rfl) (by kernel_rfl) (by kernel_rfl) (fun _ _ _ h => h) (Or.inl ⟨by kernel_rfl,?_⟩) (by assumption) ?_
    rotate_left
    ·(intro w hSw; (try dsimp only at hSw); go_simp)
     with_reducible rfl
    try simp only [Act.put]
    refine wpAnyH_ready (rs:=[1,3]) (by kernel_rfl) (by simp) ?_
    have hkvlt:=(Array.getElem?_eq_some_iff.1 HKV7.out).1
    refine AllReadyH.cons rfl (fun K hK => ?_) (AllReadyH.cons rfl (fun K hK => ?_) AllReadyH.nil)
    ·go_simp
     obtain ⟨vb,hvb⟩ : ∃ vb,vb = w7.heap.size:=⟨_,rfl⟩
     obtain ⟨w8,hw8⟩ : ∃ w8,w8 = (w7.alloc (.cells #[.int .u8 k1,.slice a1 n1 c1,.slice b1 m1 d1,.int .i64 lo1,.bool ls1,.int .i64 hi1,.bool hs1,.bool op1] 28)).drew:=⟨_,rfl⟩
     have HS8 : Hid (Same pb tb w w8 L stop (nx1 + 1) deep 170 (z05 (z01 L stop (nx1 + 1)))):=by rw [Hid,hw8]; exact (HS7.out.alloc _).drew
     have HKR8 : Hid (w8.heap[w.heap.size]? = some (.cells #[.int .u8 0,.slice none 0 0,.slice none 0 0,.int .i64 0,.bool false,.int .i64 0,.bool false,.bool false] 28 (0,0))):=by rw [Hid,hw8]; exact z0d (o:=(.cells #[.int .u8 k1,.slice a1 n1 c1,.slice b1 m1 d1,.int .i64 lo1,.bool ls1,.int .i64 hi1,.bool hs1,.bool op1] 28)) HKR7.out
     have HKV8 : Hid (w8.heap[kv]? = some (.cells #[.int .u8 k1,.slice a1 n1 c1,.slice b1 m1 d1,.int .i64 lo1,.bool ls1,.int .i64 hi1,.bool hs1,.bool op1] 28 (0,0))):=by rw [Hid,hw8]; exact z0d (o:=(.cells #[.int .u8 k1,.slice a1 n1 c1,.slice b1 m1 d1,.int .i64 lo1,.bool ls1,.int .i64 hi1,.bool hs1,.bool op1] 28)) HKV7.out
     have HVB8 : Hid (w8.heap[vb]? = some (.cells #[.int .u8 k1,.slice a1 n1 c1,.slice b1 m1 d1,.int .i64 lo1,.bool ls1,.int .i64 hi1,.bool hs1,.bool op1] 28 (0,0))):=by rw [Hid,hw8]; exact z06 (o:=(.cells #[.int .u8 k1,.slice a1 n1 c1,.slice b1 m1 d1,.int .i64 lo1,.bool ls1,.int .i64 hi1,.bool hs1,.bool op1] 28)) hvb
     have HO8 : Hid (∀ b,b < w7.heap.size → w8.heap[b]? = w7.heap[b]?):=by rw [Hid,hw8]; exact fun b hb => Lib.alloc_old w7 (.cells #[.int .u8 k1,.slice a1 n1 c1,.slice b1 m1 d1,.int .i64 lo1,.bool ls1,.int .i64 hi1,.bool hs1,.bool op1] 28) b hb
     have HZ8 : Hid (w7.heap.size ≤ w8.heap.size):=by rw [Hid,hw8]; show w7.heap.size ≤ (w7.alloc (.cells #[.int .u8 k1,.slice a1 n1 c1,.slice b1 m1 d1,.int .i64 lo1,.bool ls1,.int .i64 hi1,.bool hs1,.bool op1] 28)).heap.size; simp
     have hvbl : kv < vb:=by omega
     have hvbp : vb ≠ pb:=by have:=HB.out.1; omega
     have HW8:=Lib.hid hw8.symm
     have HVW:=Lib.hid hvb.symm
     clear hw8 hvb
     rw [HW8.out,HVW.out]
     clear HW8 HVW
     refine hK.out _ _ (HS.out _ (fun b hb => by subst hb; exact HO8.out _ hkvlt)) (fun _ => ?_)
     clear hK K
     try simp only [Act.put,List.setIfInBounds_toArray,List.set_cons_zero,List.set_cons_succ]
     refine wpAnyH_ready (rs:=[3]) (by kernel_rfl) (by simp) ?_
     refine AllReadyH.cons rfl (fun K hK => ?_) AllReadyH.nil
     go_simp
     have HI:=Lib.hid (z1g pb tb L stop _ deep 170 (z05 (z01 L stop (nx1 + 1))) (show (170 : Int) ≠ 0 by decide) _ HS8.out.1)
     refine HI.out.mono ?_
     rintro en w9 ⟨i,rfl,hs9⟩
     have HS9:=Lib.hid (RP.same HS8.out hs9)
     have HKR9:=Lib.hid (hs9.at HKR8.out hkp)
     have HKV9:=Lib.hid (hs9.at HKV8.out hkvp)
     have HVB9:=Lib.hid (hs9.at HVB8.out hvbp)
     have HO9 : Hid (∀ b,b < w7.heap.size → b ≠ pb → w9.heap[b]? = w7.heap[b]?):=fun b hb hp => (hs9.2.2.2.2.2 b (by have:=HZ8.out; omega) hp).trans (HO8.out b hb)
     have HZ9 : Hid (w7.heap.size ≤ w9.heap.size):=Nat.le_trans HZ8.out hs9.size
     clear hs9
     unfold Spn.val
     dsimp only
     refine hK.out _ _ (HS.out _ (fun b hb => by subst hb; exact HKV9.out.trans HKV7.out.symm)) (fun _ => ?_)
     clear hK K
     try simp only [Act.put,List.setIfInBounds_toArray,List.set_cons_zero,List.set_cons_succ]
     refine wpAnyH_take (i:=4) (v:=?_) rfl (by kernel_rfl) (by kernel_rfl) (by kernel_rfl) (fun _ _ _ h => h) (Or.inl ⟨by kernel_rfl,?_⟩) (by assumption) ?_
     rotate_left
     ·(intro w hSw; (try dsimp only at hSw); go_simp)
      with_reducible rfl
     try simp only [Act.put,List.setIfInBounds_toArray]
     have hkr:=HKR9.out
     obtain ⟨xe0,xe1,xe2,xe3,xe4,xe5,xe6,xe7,xf0,xf1,xf2,xf3,xf4,xf5,xf6,xf7⟩:=cf8 hkr
     have hltz:=(Array.getElem?_eq_some_iff.1 hkr).1
     have HAT : Hid ((set8 w9 w.heap.size (.int .u8 6) (.slice none 0 0) (.slice (some ⟨vb,0,none⟩) 1 1) (.int .i64 i.low) (.bool i.ls) (.int .i64 i.high) (.bool i.hs) (.bool i.op)).heap[w.heap.size]? = some (.cells #[.int .u8 6,.slice none 0 0,.slice (some ⟨vb,0,none⟩) 1 1,.int .i64 i.low,.bool i.ls,.int .i64 i.high,.bool i.hs,.bool i.op] 28 (0,0))):=z0c hkr _ _ _ _ _ _ _ _ 
     have HOUT : Hid (OutRX pb tb L stop deep bad w (.error (170,(z05 (z01 L stop (nx1 + 1))))) (.returned (.agg #[.int .u8 6,.slice none 0 0,.slice (some ⟨vb,0,none⟩) 1 1,.int .i64 i.low,.bool i.ls,.int .i64 i.high,.bool i.hs,.bool i.op])) (set8 w9 w.heap.size (.int .u8 6) (.slice none 0 0) (.slice (some ⟨vb,0,none⟩) 1 1) (.int .i64 i.low) (.bool i.ls) (.int .i64 i.high) (.bool i.hs) (.bool i.op))):=⟨(show (170 : Int) ≠ 0 by decide),ErX.of (by omega) (HS9.out.set8 (Nat.le_refl _) HB.out _ _ _ _ _ _ _ _)⟩
     have HSL:=HS.out (set8 w9 w.heap.size (.int .u8 6) (.slice none 0 0) (.slice (some ⟨vb,0,none⟩) 1 1) (.int .i64 i.low) (.bool i.ls) (.int .i64 i.high) (.bool i.hs) (.bool i.op)) (fun b hb => by subst hb; exact (z03 _ _ _ _ _ _ _ _ _ _ _ (by omega)).trans (HKV9.out.trans HKV7.out.symm))
     clear hkr
     refine wpAnyH_ready (rs:=[5]) (by kernel_rfl) (by simp) ?_
     refine AllReadyH.cons rfl (fun K hK => ?_) AllReadyH.nil
     go_simp
     refine hK.out _ _ HSL (fun _ => ?_)
     clear hK K HSL
     try simp only [Act.put,List.setIfInBounds_toArray,List.set_cons_zero,List.set_cons_succ]
     refine wpAnyH_done (by kernel_rfl) ?_ _
     go_wp2_with fail
     refine bodyPost_ret (results_cell_row rfl _ _ _ _ _ _ _ rfl HAT.out Tryz.underlying28 rfl (by kernel_rfl)) rfl ?_
     rw [HRES.out]
     exact HOUT.out
    ·go_simp
     have HS7d : Hid (Same pb tb w w7.drew L stop (nx1 + 1) deep 170 (z05 (z01 L stop (nx1 + 1)))):=HS7.out.drew
     have HI:=Lib.hid (z1g pb tb L stop _ deep 170 (z05 (z01 L stop (nx1 + 1))) (show (170 : Int) ≠ 0 by decide) _ HS7d.out.1)
     refine HI.out.mono ?_
     rintro en w8 ⟨i,rfl,hs9⟩
     have HS8:=Lib.hid (RP.same HS7d.out hs9)
     have HKR8 : Hid (w8.heap[w.heap.size]? = some (.cells #[.int .u8 0,.slice none 0 0,.slice none 0 0,.int .i64 0,.bool false,.int .i64 0,.bool false,.bool false] 28 (0,0))):=hs9.at (show w7.drew.heap[w.heap.size]? = _ from HKR7.out) hkp
     have HKV8 : Hid (w8.heap[kv]? = some (.cells #[.int .u8 k1,.slice a1 n1 c1,.slice b1 m1 d1,.int .i64 lo1,.bool ls1,.int .i64 hi1,.bool hs1,.bool op1] 28 (0,0))):=hs9.at (show w7.drew.heap[kv]? = _ from HKV7.out) hkvp
     have HO8 : Hid (∀ b,b < w7.heap.size → b ≠ pb → w8.heap[b]? = w7.heap[b]?):=fun b hb hp => hs9.2.2.2.2.2 b hb hp
     have HZ8 : Hid (w7.heap.size ≤ w8.heap.size):=hs9.size
     clear hs9
     unfold Spn.val
     dsimp only
     refine hK.out _ _ (HS.out _ (fun b hb => by subst hb; exact HKV8.out.trans HKV7.out.symm)) (fun _ => ?_)
     clear hK K
     try simp only [Act.put,List.setIfInBounds_toArray,List.set_cons_zero,List.set_cons_succ]
     refine wpAnyH_ready (rs:=[1]) (by kernel_rfl) (by simp) ?_
     refine AllReadyH.cons rfl (fun K hK => ?_) AllReadyH.nil
     go_simp
     obtain ⟨vb,hvb⟩ : ∃ vb,vb = w8.heap.size:=⟨_,rfl⟩
     obtain ⟨w9,hw9⟩ : ∃ w9,w9 = w8.alloc (.cells #[.int .u8 k1,.slice a1 n1 c1,.slice b1 m1 d1,.int .i64 lo1,.bool ls1,.int .i64 hi1,.bool hs1,.bool op1] 28):=⟨_,rfl⟩
     have HS9 : Hid (Same pb tb w w9 L stop (nx1 + 1) deep 170 (z05 (z01 L stop (nx1 + 1)))):=by rw [Hid,hw9]; exact HS8.out.alloc _
     have HKR9 : Hid (w9.heap[w.heap.size]? = some (.cells #[.int .u8 0,.slice none 0 0,.slice none 0 0,.int .i64 0,.bool false,.int .i64 0,.bool false,.bool false] 28 (0,0))):=by rw [Hid,hw9]; exact z0d HKR8.out
     have HKV9 : Hid (w9.heap[kv]? = some (.cells #[.int .u8 k1,.slice a1 n1 c1,.slice b1 m1 d1,.int .i64 lo1,.bool ls1,.int .i64 hi1,.bool hs1,.bool op1] 28 (0,0))):=by rw [Hid,hw9]; exact z0d HKV8.out
     have HVB9 : Hid (w9.heap[vb]? = some (.cells #[.int .u8 k1,.slice a1 n1 c1,.slice b1 m1 d1,.int .i64 lo1,.bool ls1,.int .i64 hi1,.bool hs1,.bool op1] 28 (0,0))):=by rw [Hid,hw9]; exact z06 hvb
     have HO9 : Hid (∀ b,b < w7.heap.size → b ≠ pb → w9.heap[b]? = w7.heap[b]?):=by rw [Hid,hw9]; exact fun b hb hp => (Lib.alloc_old _ _ _ (by have:=HZ8.out; omega)).trans (HO8.out b hb hp)
     have HZ9 : Hid (w7.heap.size ≤ w9.heap.size):=by rw [Hid,hw9]; have:=HZ8.out; simp; omega
     have hvbl : kv < vb:=by have:=HZ8.out; omega
     have hvbp : vb ≠ pb:=by have:=HB.out.1; omega
     have HW9:=Lib.hid hw9.symm
     have HVW:=Lib.hid hvb.symm
     clear hw9 hvb
     rw [HW9.out,HVW.out]
     clear HW9 HVW
     refine hK.out _ _ (HS.out _ (fun b hb => by subst hb; exact HKV9.out.trans HKV7.out.symm)) (fun _ => ?_)
     clear hK K
     try simp only [Act.put,List.setIfInBounds_toArray,List.set_cons_zero,List.set_cons_succ]
     refine wpAnyH_take (i:=4) (v:=?_) rfl (by kernel_rfl) (by kernel_rfl) (by kernel_rfl) (fun _ _ _ h => h) (Or.inl ⟨by kernel_rfl,?_⟩) (by assumption) ?_
     rotate_left
     ·(intro w hSw; (try dsimp only at hSw); go_simp)
      with_reducible rfl
     try simp only [Act.put,List.setIfInBounds_toArray]
     have hkr:=HKR9.out
     obtain ⟨xe0,xe1,xe2,xe3,xe4,xe5,xe6,xe7,xf0,xf1,xf2,xf3,xf4,xf5,xf6,xf7⟩:=cf8 hkr
     have hltz:=(Array.getElem?_eq_some_iff.1 hkr).1
     have HAT : Hid ((set8 w9 w.heap.size (.int .u8 6) (.slice none 0 0) (.slice (some ⟨vb,0,none⟩) 1 1) (.int .i64 i.low) (.bool i.ls) (.int .i64 i.high) (.bool i.hs) (.bool i.op)).heap[w.heap.size]? = some (.cells #[.int .u8 6,.slice none 0 0,.slice (some ⟨vb,0,none⟩) 1 1,.int .i64 i.low,.bool i.ls,.int .i64 i.high,.bool i.hs,.bool i.op] 28 (0,0))):=z0c hkr _ _ _ _ _ _ _ _ 
     have HOUT : Hid (OutRX pb tb L stop deep bad w (.error (170,(z05 (z01 L stop (nx1 + 1))))) (.returned (.agg #[.int .u8 6,.slice none 0 0,.slice (some ⟨vb,0,none⟩) 1 1,.int .i64 i.low,.bool i.ls,.int .i64 i.high,.bool i.hs,.bool i.op])) (set8 w9 w.heap.size (.int .u8 6) (.slice none 0 0) (.slice (some ⟨vb,0,none⟩) 1 1) (.int .i64 i.low) (.bool i.ls) (.int .i64 i.high) (.bool i.hs) (.bool i.op))):=⟨(show (170 : Int) ≠ 0 by decide),ErX.of (by omega) (HS9.out.set8 (Nat.le_refl _) HB.out _ _ _ _ _ _ _ _)⟩
     have HSL:=HS.out (set8 w9 w.heap.size (.int .u8 6) (.slice none 0 0) (.slice (some ⟨vb,0,none⟩) 1 1) (.int .i64 i.low) (.bool i.ls) (.int .i64 i.high) (.bool i.hs) (.bool i.op)) (fun b hb => by subst hb; exact (z03 _ _ _ _ _ _ _ _ _ _ _ (by omega)).trans (HKV9.out.trans HKV7.out.symm))
     clear hkr
     refine wpAnyH_ready (rs:=[5]) (by kernel_rfl) (by simp) ?_
     refine AllReadyH.cons rfl (fun K hK => ?_) AllReadyH.nil
     go_simp
     refine hK.out _ _ HSL (fun _ => ?_)
     clear hK K HSL
     try simp only [Act.put,List.setIfInBounds_toArray,List.set_cons_zero,List.set_cons_succ]
     refine wpAnyH_done (by kernel_rfl) ?_ _
     go_wp2_with fail
     refine bodyPost_ret (results_cell_row rfl _ _ _ _ _ _ _ rfl HAT.out Tryz.underlying28 rfl (by kernel_rfl)) rfl ?_
     rw [HRES.out]
     exact HOUT.out
  | false =>
   have HRES : Hid (RES = .error (170,z05 (z01 L stop nx1))):=by
    rw [Hid,HR.out]; show z1y (if isT [62] r = true then _ else _) _ = _; rw [HRR.out,qs]; rfl
   have HM6:=Lib.hid (z1v pb tb L L stop stop nx1 ((deep + 1 : Nat) : Int) 170 (z05 (z01 L stop nx1)) (by omega) (by have:=HD.out; omega) ⟨#[62]⟩ w5 (z1r pb tb L stop nx1 ((deep + 1 : Nat) : Int) bad ⟨#[62]⟩ (by decide) w5 HS5.out.1 qs))
   rw [show ((deep + 1 : Nat) : Int) - 1 = (deep : Int) by omega] at HM6
   clear qs
   go_wp2_with fail
   refine HM6.out.mono ?_
   rintro en w6 ⟨rfl,hs2⟩
   have HS6:=Lib.hid (RP.same HS5.out hs2)
   have HKR6:=Lib.hid (hs2.at HKR5.out hkp)
   have HKV6:=Lib.hid (hs2.at HKV5.out hkvp)
   clear hs2
   have HM7:=Lib.hid (z0i pb tb L stop nx1 deep 170 (z05 (z01 L stop nx1)) ⟨#[95]⟩ (by decide) w6 HS6.out.1)
   go_wp2_with fail
   refine HM7.out.mono ?_
   rintro en w7 ⟨rfl,hs2⟩
   have HS7:=Lib.hid (RP.same HS6.out hs2)
   have HKR7:=Lib.hid (hs2.at HKR6.out hkp)
   have HKV7:=Lib.hid (hs2.at HKV6.out hkvp)
   clear hs2
   have HS : Hid (∀ W : World,(∀ b,b = kv → W.heap[b]? = w7.heap[b]?) → W.cell? ⟨kv,0,none⟩ = some (.int .u8 k1) ∧ W.cell? ⟨kv,1,none⟩ = some (.slice a1 n1 c1) ∧ W.cell? ⟨kv,2,none⟩ = some (.slice b1 m1 d1) ∧ W.cell? ⟨kv,3,none⟩ = some (.int .i64 lo1) ∧ W.cell? ⟨kv,4,none⟩ = some (.bool ls1) ∧ W.cell? ⟨kv,5,none⟩ = some (.int .i64 hi1) ∧ W.cell? ⟨kv,6,none⟩ = some (.bool hs1) ∧ W.cell? ⟨kv,7,none⟩ = some (.bool op1)):=by
    intro W hW
    have e:=(hW kv rfl).trans HKV7.out
    exact ⟨Lib.cell_of_heap e 0,Lib.cell_of_heap e 1,Lib.cell_of_heap e 2,Lib.cell_of_heap e 3,Lib.cell_of_heap e 4,Lib.cell_of_heap e 5,Lib.cell_of_heap e 6,Lib.cell_of_heap e 7⟩
   have hself : w7.drew.cell? ⟨kv,0,none⟩ = some (.int .u8 k1) ∧ w7.drew.cell? ⟨kv,1,none⟩ = some (.slice a1 n1 c1) ∧ w7.drew.cell? ⟨kv,2,none⟩ = some (.slice b1 m1 d1) ∧ w7.drew.cell? ⟨kv,3,none⟩ = some (.int .i64 lo1) ∧ w7.drew.cell? ⟨kv,4,none⟩ = some (.bool ls1) ∧ w7.drew.cell? ⟨kv,5,none⟩ = some (.int .i64 hi1) ∧ w7.drew.cell? ⟨kv,6,none⟩ = some (.bool hs1) ∧ w7.drew.cell? ⟨kv,7,none⟩ = some (.bool op1):=HS.out _ (fun _ _ => rfl)
   go_wp2_with fail
   refine wp_region_held_drew (S:=fun W => W.cell? ⟨kv,0,none⟩ = some (.int .u8 k1) ∧ W.cell? ⟨kv,1,none⟩ = some (.slice a1 n1 c1) ∧ W.cell? ⟨kv,2,none⟩ = some (.slice b1 m1 d1) ∧ W.cell? ⟨kv,3,none⟩ = some (.int .i64 lo1) ∧ W.cell? ⟨kv,4,none⟩ = some (.bool ls1) ∧ W.cell? ⟨kv,5,none⟩ = some (.int .i64 hi1) ∧ W.cell? ⟨kv,6,none⟩ = some (.bool hs1) ∧ W.cell? ⟨kv,7,none⟩ = some (.bool op1)) (by kernel_rfl) hself (fun hHeld => ?_)
   refine wpAnyH_take (i:=0) (v:=?_) rfl (by kernel_rfl) (by kernel_rfl) (by kernel_rfl) (fun _ _ _ h => h) (Or.inl ⟨by kernel_rfl,?_⟩) (by assumption) ?_
   rotate_left
   ·(intro w hSw; (try dsimp only at hSw); go_simp)
    with_reducible rfl
   try simp only [Act.put,List.setIfInBounds_toArray]
   refine wpAnyH_take (i:=2) (v:=?_) rfl (by kernel_rfl) (by kernel_rfl) (by kernel_rfl) (fun _ _ _ h => h) (Or.inl ⟨by kernel_rfl,?_⟩) (by assumption) ?_
   rotate_left
   ·(intro w hSw; (try dsimp only at hSw); go_simp)
    with_reducible rfl
   try simp only [Act.put]
   refine wpAnyH_ready (rs:=[1,3]) (by kernel_rfl) (by simp) ?_
   have hkvlt:=(Array.getElem?_eq_some_iff.1 HKV7.out).1
   refine AllReadyH.cons rfl (fun K hK => ?_) (AllReadyH.cons rfl (fun K hK => ?_) AllReadyH.nil)
   ·go_simp
    obtain ⟨vb,hvb⟩ : ∃ vb,vb = w7.heap.size:=⟨_,rfl⟩
    obtain ⟨w8,hw8⟩ : ∃ w8,w8 = (w7.alloc (.cells #[.int .u8 k1,.slice a1 n1 c1,.slice b1 m1 d1,.int .i64 lo1,.bool ls1,.int .i64 hi1,.bool hs1,.bool op1] 28)).drew:=⟨_,rfl⟩
    have HS8 : Hid (Same pb tb w w8 L stop (nx1) deep 170 (z05 (z01 L stop nx1))):=by rw [Hid,hw8]; exact (HS7.out.alloc _).drew
    have HKR8 : Hid (w8.heap[w.heap.size]? = some (.cells #[.int .u8 0,.slice none 0 0,.slice none 0 0,.int .i64 0,.bool false,.int .i64 0,.bool false,.bool false] 28 (0,0))):=by rw [Hid,hw8]; exact z0d (o:=(.cells #[.int .u8 k1,.slice a1 n1 c1,.slice b1 m1 d1,.int .i64 lo1,.bool ls1,.int .i64 hi1,.bool hs1,.bool op1] 28)) HKR7.out
    have HKV8 : Hid (w8.heap[kv]? = some (.cells #[.int .u8 k1,.slice a1 n1 c1,.slice b1 m1 d1,.int .i64 lo1,.bool ls1,.int .i64 hi1,.bool hs1,.bool op1] 28 (0,0))):=by rw [Hid,hw8]; exact z0d (o:=(.cells #[.int .u8 k1,.slice a1 n1 c1,.slice b1 m1 d1,.int .i64 lo1,.bool ls1,.int .i64 hi1,.bool hs1,.bool op1] 28)) HKV7.out
    have HVB8 : Hid (w8.heap[vb]? = some (.cells #[.int .u8 k1,.slice a1 n1 c1,.slice b1 m1 d1,.int .i64 lo1,.bool ls1,.int .i64 hi1,.bool hs1,.bool op1] 28 (0,0))):=by rw [Hid,hw8]; exact z06 (o:=(.cells #[.int .u8 k1,.slice a1 n1 c1,.slice b1 m1 d1,.int .i64 lo1,.bool ls1,.int .i64 hi1,.bool hs1,.bool op1] 28)) hvb
    have HO8 : Hid (∀ b,b < w7.heap.size → w8.heap[b]? = w7.heap[b]?):=by rw [Hid,hw8]; exact fun b hb => Lib.alloc_old w7 (.cells #[.int .u8 k1,.slice a1 n1 c1,.slice b1 m1 d1,.int .i64 lo1,.bool ls1,.int .i64 hi1,.bool hs1,.bool op1] 28) b hb
    have HZ8 : Hid (w7.heap.size ≤ w8.heap.size):=by rw [Hid,hw8]; show w7.heap.size ≤ (w7.alloc (.cells #[.int .u8 k1,.slice a1 n1 c1,.slice b1 m1 d1,.int .i64 lo1,.bool ls1,.int .i64 hi1,.bool hs1,.bool op1] 28)).heap.size; simp
    have hvbl : kv < vb:=by omega
    have hvbp : vb ≠ pb:=by have:=HB.out.1; omega
    have HW8:=Lib.hid hw8.symm
    have HVW:=Lib.hid hvb.symm
    clear hw8 hvb
    rw [HW8.out,HVW.out]
    clear HW8 HVW
    refine hK.out _ _ (HS.out _ (fun b hb => by subst hb; exact HO8.out _ hkvlt)) (fun _ => ?_)
    clear hK K
    try simp only [Act.put,List.setIfInBounds_toArray,List.set_cons_zero,List.set_cons_succ]
    refine wpAnyH_ready (rs:=[3]) (by kernel_rfl) (by simp) ?_
    refine AllReadyH.cons rfl (fun K hK => ?_) AllReadyH.nil
    go_simp
    have HI:=Lib.hid (z1g pb tb L stop _ deep 170 (z05 (z01 L stop nx1)) (show (170 : Int) ≠ 0 by decide) _ HS8.out.1)
    refine HI.out.mono ?_
    rintro en w9 ⟨i,rfl,hs9⟩
    have HS9:=Lib.hid (RP.same HS8.out hs9)
    have HKR9:=Lib.hid (hs9.at HKR8.out hkp)
    have HKV9:=Lib.hid (hs9.at HKV8.out hkvp)
    have HVB9:=Lib.hid (hs9.at HVB8.out hvbp)
    have HO9 : Hid (∀ b,b < w7.heap.size → b ≠ pb → w9.heap[b]? = w7.heap[b]?):=fun b hb hp => (hs9.2.2.2.2.2 b (by have:=HZ8.out; omega) hp).trans (HO8.out b hb)
    have HZ9 : Hid (w7.heap.size ≤ w9.heap.size):=Nat.le_trans HZ8.out hs9.size
    clear hs9
    unfold Spn.val
    dsimp only
    refine hK.out _ _ (HS.out _ (fun b hb => by subst hb; exact HKV9.out.trans HKV7.out.symm)) (fun _ => ?_)
    clear hK K
    try simp only [Act.put,List.setIfInBounds_toArray,List.set_cons_zero,List.set_cons_succ]
    refine wpAnyH_take (i:=4) (v:=?_) rfl (by kernel_rfl) (by kernel_rfl) (by kernel_rfl) (fun _ _ _ h => h) (Or.inl ⟨by kernel_rfl,?_⟩) (by assumption) ?_
    rotate_left
    ·(intro w hSw; (try dsimp only at hSw); go_simp)
     with_reducible rfl
    try simp only [Act.put,List.setIfInBounds_toArray]
    have hkr:=HKR9.out
    obtain ⟨xe0,xe1,xe2,xe3,xe4,xe5,xe6,xe7,xf0,xf1,xf2,xf3,xf4,xf5,xf6,xf7⟩:=cf8 hkr
    have hltz:=(Array.getElem?_eq_some_iff.1 hkr).1
    have HAT : Hid ((set8 w9 w.heap.size (.int .u8 6) (.slice none 0 0) (.slice (some ⟨vb,0,none⟩) 1 1) (.int .i64 i.low) (.bool i.ls) (.int .i64 i.high) (.bool i.hs) (.bool i.op)).heap[w.heap.size]? = some (.cells #[.int .u8 6,.slice none 0 0,.slice (some ⟨vb,0,none⟩) 1 1,.int .i64 i.low,.bool i.ls,.int .i64 i.high,.bool i.hs,.bool i.op] 28 (0,0))):=z0c hkr _ _ _ _ _ _ _ _ 
    have HOUT : Hid (OutRX pb tb L stop deep bad w (.error (170,(z05 (z01 L stop nx1)))) (.returned (.agg #[.int .u8 6,.slice none 0 0,.slice (some ⟨vb,0,none⟩) 1 1,.int .i64 i.low,.bool i.ls,.int .i64 i.high,.bool i.hs,.bool i.op])) (set8 w9 w.heap.size (.int .u8 6) (.slice none 0 0) (.slice (some ⟨vb,0,none⟩) 1 1) (.int .i64 i.low) (.bool i.ls) (.int .i64 i.high) (.bool i.hs) (.bool i.op))):=⟨(show (170 : Int) ≠ 0 by decide),ErX.of (by omega) (HS9.out.set8 (Nat.le_refl _) HB.out _ _ _ _ _ _ _ _)⟩
    have HSL:=HS.out (set8 w9 w.heap.size (.int .u8 6) (.slice none 0 0) (.slice (some ⟨vb,0,none⟩) 1 1) (.int .i64 i.low) (.bool i.ls) (.int .i64 i.high) (.bool i.hs) (.bool i.op)) (fun b hb => by subst hb; exact (z03 _ _ _ _ _ _ _ _ _ _ _ (by omega)).trans (HKV9.out.trans HKV7.out.symm))
    clear hkr
    refine wpAnyH_ready (rs:=[5]) (by kernel_rfl) (by simp) ?_
    refine AllReadyH.cons rfl (fun K hK => ?_) AllReadyH.nil
    go_simp
    refine hK.out _ _ HSL (fun _ => ?_)
    clear hK K HSL
    try simp only [Act.put,List.setIfInBounds_toArray,List.set_cons_zero,List.set_cons_succ]
    refine wpAnyH_done (by kernel_rfl) ?_ _
    go_wp2_with fail
    refine bodyPost_ret (results_cell_row rfl _ _ _ _ _ _ _ rfl HAT.out Tryz.underlying28 rfl (by kernel_rfl)) rfl ?_
    rw [HRES.out]
    exact HOUT.out
   ·go_simp
    have HS7d : Hid (Same pb tb w w7.drew L stop (nx1) deep 170 (z05 (z01 L stop nx1))):=HS7.out.drew
    have HI:=Lib.hid (z1g pb tb L stop _ deep 170 (z05 (z01 L stop nx1)) (show (170 : Int) ≠ 0 by decide) _ HS7d.out.1)
    refine HI.out.mono ?_
    rintro en w8 ⟨i,rfl,hs9⟩
    have HS8:=Lib.hid (RP.same HS7d.out hs9)
    have HKR8 : Hid (w8.heap[w.heap.size]? = some (.cells #[.int .u8 0,.slice none 0 0,.slice none 0 0,.int .i64 0,.bool false,.int .i64 0,.bool false,.bool false] 28 (0,0))):=hs9.at (show w7.drew.heap[w.heap.size]? = _ from HKR7.out) hkp
    have HKV8 : Hid (w8.heap[kv]? = some (.cells #[.int .u8 k1,.slice a1 n1 c1,.slice b1 m1 d1,.int .i64 lo1,.bool ls1,.int .i64 hi1,.bool hs1,.bool op1] 28 (0,0))):=hs9.at (show w7.drew.heap[kv]? = _ from HKV7.out) hkvp
    have HO8 : Hid (∀ b,b < w7.heap.size → b ≠ pb → w8.heap[b]? = w7.heap[b]?):=fun b hb hp => hs9.2.2.2.2.2 b hb hp
    have HZ8 : Hid (w7.heap.size ≤ w8.heap.size):=hs9.size
    clear hs9
    unfold Spn.val
    dsimp only
    refine hK.out _ _ (HS.out _ (fun b hb => by subst hb; exact HKV8.out.trans HKV7.out.symm)) (fun _ => ?_)
    clear hK K
    try simp only [Act.put,List.setIfInBounds_toArray,List.set_cons_zero,List.set_cons_succ]
    refine wpAnyH_ready (rs:=[1]) (by kernel_rfl) (by simp) ?_
    refine AllReadyH.cons rfl (fun K hK => ?_) AllReadyH.nil
    go_simp
    obtain ⟨vb,hvb⟩ : ∃ vb,vb = w8.heap.size:=⟨_,rfl⟩
    obtain ⟨w9,hw9⟩ : ∃ w9,w9 = w8.alloc (.cells #[.int .u8 k1,.slice a1 n1 c1,.slice b1 m1 d1,.int .i64 lo1,.bool ls1,.int .i64 hi1,.bool hs1,.bool op1] 28):=⟨_,rfl⟩
    have HS9 : Hid (Same pb tb w w9 L stop (nx1) deep 170 (z05 (z01 L stop nx1))):=by rw [Hid,hw9]; exact HS8.out.alloc _
    have HKR9 : Hid (w9.heap[w.heap.size]? = some (.cells #[.int .u8 0,.slice none 0 0,.slice none 0 0,.int .i64 0,.bool false,.int .i64 0,.bool false,.bool false] 28 (0,0))):=by rw [Hid,hw9]; exact z0d HKR8.out
    have HKV9 : Hid (w9.heap[kv]? = some (.cells #[.int .u8 k1,.slice a1 n1 c1,.slice b1 m1 d1,.int .i64 lo1,.bool ls1,.int .i64 hi1,.bool hs1,.bool op1] 28 (0,0))):=by rw [Hid,hw9]; exact z0d HKV8.out
    have HVB9 : Hid (w9.heap[vb]? = some (.cells #[.int .u8 k1,.slice a1 n1 c1,.slice b1 m1 d1,.int .i64 lo1,.bool ls1,.int .i64 hi1,.bool hs1,.bool op1] 28 (0,0))):=by rw [Hid,hw9]; exact z06 hvb
    have HO9 : Hid (∀ b,b < w7.heap.size → b ≠ pb → w9.heap[b]? = w7.heap[b]?):=by rw [Hid,hw9]; exact fun b hb hp => (Lib.alloc_old _ _ _ (by have:=HZ8.out; omega)).trans (HO8.out b hb hp)
    have HZ9 : Hid (w7.heap.size ≤ w9.heap.size):=by rw [Hid,hw9]; have:=HZ8.out; simp; omega
    have hvbl : kv < vb:=by have:=HZ8.out; omega
    have hvbp : vb ≠ pb:=by have:=HB.out.1; omega
    have HW9:=Lib.hid hw9.symm
    have HVW:=Lib.hid hvb.symm
    clear hw9 hvb
    rw [HW9.out,HVW.out]
    clear HW9 HVW
    refine hK.out _ _ (HS.out _ (fun b hb => by subst hb; exact HKV9.out.trans HKV7.out.symm)) (fun _ => ?_)
    clear hK K
    try simp only [Act.put,List.setIfInBounds_toArray,List.set_cons_zero,List.set_cons_succ]
    refine wpAnyH_take (i:=4) (v:=?_) rfl (by kernel_rfl) (by kernel_rfl) (by kernel_rfl) (fun _ _ _ h => h) (Or.inl ⟨by kernel_rfl,?_⟩) (by assumption) ?_
    rotate_left
    ·(intro w hSw; (try dsimp only at hSw); go_simp)
     with_reducible rfl
    try simp only [Act.put,List.setIfInBounds_toArray]
    have hkr:=HKR9.out
    obtain ⟨xe0,xe1,xe2,xe3,xe4,xe5,xe6,xe7,xf0,xf1,xf2,xf3,xf4,xf5,xf6,xf7⟩:=cf8 hkr
    have hltz:=(Array.getElem?_eq_some_iff.1 hkr).1
    have HAT : Hid ((set8 w9 w.heap.size (.int .u8 6) (.slice none 0 0) (.slice (some ⟨vb,0,none⟩) 1 1) (.int .i64 i.low) (.bool i.ls) (.int .i64 i.high) (.bool i.hs) (.bool i.op)).heap[w.heap.size]? = some (.cells #[.int .u8 6,.slice none 0 0,.slice (some ⟨vb,0,none⟩) 1 1,.int .i64 i.low,.bool i.ls,.int .i64 i.high,.bool i.hs,.bool i.op] 28 (0,0))):=z0c hkr _ _ _ _ _ _ _ _ 
    have HOUT : Hid (OutRX pb tb L stop deep bad w (.error (170,(z05 (z01 L stop nx1)))) (.returned (.agg #[.int .u8 6,.slice none 0 0,.slice (some ⟨vb,0,none⟩) 1 1,.int .i64 i.low,.bool i.ls,.int .i64 i.high,.bool i.hs,.bool i.op])) (set8 w9 w.heap.size (.int .u8 6) (.slice none 0 0) (.slice (some ⟨vb,0,none⟩) 1 1) (.int .i64 i.low) (.bool i.ls) (.int .i64 i.high) (.bool i.hs) (.bool i.op))):=⟨(show (170 : Int) ≠ 0 by decide),ErX.of (by omega) (HS9.out.set8 (Nat.le_refl _) HB.out _ _ _ _ _ _ _ _)⟩
    have HSL:=HS.out (set8 w9 w.heap.size (.int .u8 6) (.slice none 0 0) (.slice (some ⟨vb,0,none⟩) 1 1) (.int .i64 i.low) (.bool i.ls) (.int .i64 i.high) (.bool i.hs) (.bool i.op)) (fun b hb => by subst hb; exact (z03 _ _ _ _ _ _ _ _ _ _ _ (by omega)).trans (HKV9.out.trans HKV7.out.symm))
    clear hkr
    refine wpAnyH_ready (rs:=[5]) (by kernel_rfl) (by simp) ?_
    refine AllReadyH.cons rfl (fun K hK => ?_) AllReadyH.nil
    go_simp
    refine hK.out _ _ HSL (fun _ => ?_)
    clear hK K HSL
    try simp only [Act.put,List.setIfInBounds_toArray,List.set_cons_zero,List.set_cons_succ]
    refine wpAnyH_done (by kernel_rfl) ?_ _
    go_wp2_with fail
    refine bodyPost_ret (results_cell_row rfl _ _ _ _ _ _ _ rfl HAT.out Tryz.underlying28 rfl (by kernel_rfl)) rfl ?_
    rw [HRES.out]
    exact HOUT.out
end Go.Proofs.YtpgdplmndnopbaaGreatDoor
