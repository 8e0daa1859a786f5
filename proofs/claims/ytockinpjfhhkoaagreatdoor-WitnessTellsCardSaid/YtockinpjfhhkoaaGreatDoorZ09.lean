/- Fractions compared, walked: product, compare, Cmp, less. (Printed by gen_wba.py.) -/
import Derived.Deep.RegionHeld
import Derived.Deep.Cut
import Derived.LoopTactic
import Derived.Shelf.Bits.Mul64
import Derived.Shelf.Spec.BitsCarry
import Derived.Test.YtockinpjfhhkoaaGreatDoorZ05
import Derived.Test.YtockinpjfhhkoaaGreatDoorZ08
import Derived.Test.YtockinpjfhhkoaaGreatDoorZ06
set_option maxRecDepth 100000
set_option maxHeartbeats 16000000
open List renaming getElem?_cons_zero → J7, getElem?_toArray → J9
open Go.Lib renaming cell_of_heap → Jc, hid → Jh
open Go.RowKit.Below renaming heap_alloc → Jb
namespace Go.Proofs.YtockinpjfhhkoaaGreatDoor
open Go.RowKit Go.Shelf
def Tryz.lays264_ren : Go.Shelf.Ren:=⟨fun | 264 => 208 | n => n,fun | 46 => 275 | 53 => 158 | n => n,fun | n => n⟩
theorem Tryz.lays264 : Go.Proofs.Lays.n264 Tryz.prog Tryz.lays264_ren:={
 mixed:=by kernel_rfl
 f264:=Tryz.func208.trans (congrArg some (by kernel_rfl))
 t46:=Tryz.underlying275
 a46:=Tryz.isAgg275
 z46:=Tryz.sizeOf275
 v46:=Tryz.zeroValue275
 t53:=Tryz.underlying158
 a53:=Tryz.isAgg158
 z53:=Tryz.sizeOf158
 v53:=Tryz.zeroValue158 }
def Tryz.lays7_26_ren : Go.Shelf.Ren:=⟨fun | 26 => 209 | n => n,fun | 22 => 158 | n => n,fun | n => n⟩
theorem Tryz.lays7_26 : Go.Proofs.Lays7.n26 Tryz.prog Tryz.lays7_26_ren:={
 mixed:=by kernel_rfl
 f26:=Tryz.func209.trans (congrArg some (by kernel_rfl))
 t22:=Tryz.underlying158
 a22:=Tryz.isAgg158
 z22:=Tryz.sizeOf158
 v22:=Tryz.zeroValue158
 i22:=by kernel_rfl }
theorem z3q (a : Int) (k : Nat) (w : World) (ha : in64 a) (hk : 1 ≤ k) (hk2 : k ≤ 1048576) :
 Calls Tryz.prog 145 #[.int .i64 a,.int .i64 (k : Nat)] w fun e w' => e = .returned (.tuple #[.int .i64 (hiQ (a * k)),.int .u64 (loQ (a * k))]) ∧ Below w.heap.size w w':=by
 obtain ⟨n,hn⟩ : ∃ n : Nat,a.natAbs = n:=⟨_,rfl⟩
 have hn2 : n ≤ 9223372036854775808:=by have:=ha.1; have:=ha.2; omega
 have hX : n * k ≤ 9223372036854775808 * 1048576:=Nat.mul_le_mul hn2 hk2
 have H1:=fun W => Jh ((z3y a W ha.1 ha.2).mono fun e w' h => (⟨h.1,h.2 ▸ Below.refl _ _⟩ : _ ∧ Below W.heap.size W w'))
 have H2:=fun W => Jh ((z3y (k : Int) W (by omega) (by omega)).mono fun e w' h => (⟨h.1,h.2 ▸ Below.refl _ _⟩ : _ ∧ Below W.heap.size W w'))
 have H3:=fun W => Jh (((Any.bits_Mul64 Tryz.lays264 n k (by omega) (by omega) W).mono fun e w' h => (⟨h.1,h.2 ▸ Below.refl _ _⟩ : _ ∧ Below W.heap.size W w')) : Calls Tryz.prog 208 #[.int .u64 (n : Nat),.int .u64 (k : Nat)] W fun e w' => _)
 rw [hn] at H1
 rw [Int.natAbs_natCast] at H2
 obtain ⟨X,hXe⟩ : ∃ X,n * k = X:=⟨_,rfl⟩
 rw [hXe] at hX H3
 obtain ⟨hi,hhi⟩ : ∃ h,X / 18446744073709551616 = h:=⟨_,rfl⟩
 obtain ⟨lo,hlo⟩ : ∃ l,X % 18446744073709551616 = l:=⟨_,rfl⟩
 rw [hhi,hlo] at H3
 have dk : decide ((k : Int) < 0) = false:=by simp
 have hhb : hi < 9223372036854775808:=by omega
 have hlb : lo < 18446744073709551616:=by omega
 obtain ⟨R,hR⟩ : ∃ R,a * (k : Int) = R:=⟨_,rfl⟩
 have hcast : (n : Int) * (k : Int) = (X : Int):=by rw [← hXe]; exact (Int.natCast_mul n k).symm
 by_cases h0 : a < 0
 ·have d0 : decide (a < 0) = true:=by simpa using h0
  have hRX : R = -(X : Int):=by
   rw [← hR,← hcast,show a = -(n : Int) by omega,Int.neg_mul]
  obtain ⟨l2,hl2⟩ : ∃ l2,(0 + 18446744073709551616 - lo - 0) % 18446744073709551616 = l2:=⟨_,rfl⟩
  obtain ⟨bw,hbw⟩ : ∃ bw : Nat,(if 0 < lo + 0 then 1 else 0) = bw:=⟨_,rfl⟩
  have hbw1 : bw ≤ 1:=by rw [← hbw]; split <;> omega
  obtain ⟨h2,hh2⟩ : ∃ h2,(0 + 18446744073709551616 - hi - bw) % 18446744073709551616 = h2:=⟨_,rfl⟩
  obtain ⟨x2,hx2⟩ : ∃ x2 : Nat,(if 0 < hi + bw then 1 else 0) = x2:=⟨_,rfl⟩
  have hs1 : ∀ W,(callFunc 209 #[.int .u64 0,.int .u64 (lo : Nat),.int .u64 0]).run Tryz.prog W = .ok (.value (.tuple #[.int .u64 (l2 : Nat),.int .u64 (bw : Nat)])) W:=fun W => by
   have h:=Any7.bits_Sub64 Tryz.lays7_26 0 lo 0 (by omega) W
   rw [hl2,hbw] at h
   exact h
  have hs2 : ∀ W,(callFunc 209 #[.int .u64 0,.int .u64 (hi : Nat),.int .u64 (bw : Nat)]).run Tryz.prog W = .ok (.value (.tuple #[.int .u64 (h2 : Nat),.int .u64 (x2 : Nat)])) W:=fun W => by
   have h:=Any7.bits_Sub64 Tryz.lays7_26 0 hi bw hbw1 W
   rw [hh2,hx2] at h
   exact h
  have HV : Hid (IntKind.i64.wrap (h2 : Int) = hiQ R ∧ (l2 : Int) = loQ R):=by
   have e1:=hilo_neg (x:=(X : Int)) (by omega) (by omega)
   have e2 : hiQ (X : Int) = (hi : Int):=by unfold hiQ; omega
   have e3 : loQ (X : Int) = (lo : Int):=by unfold loQ; omega
   rw [hRX,e1.1,e1.2,e2,e3]
   dsimp only
   have hb : (bw : Int) = if (lo : Int) = 0 then 0 else 1:=by
    rw [← hbw]
    by_cases hl0 : lo = 0
    ·subst hl0; simp
    ·rw [if_pos (by omega),if_neg (by omega)]; rfl
   rw [← hb]
   rw [IntKind.wrap_i64]
   constructor
   ·split <;> omega
   ·omega
  clear hn hn2 hX hXe hhi hlo hhb hlb hcast h0 hRX hl2 hbw hbw1 hh2 hx2 ha hk hk2
  rw [hR]
  have HV1 : Hid (wrap64 (h2 : Int) = hiQ R):=(IntWalk.i64_left _).symm.trans HV.out.1
  have HL : Hid (loQ R = (l2 : Int)):=HV.out.2.symm
  clear HV hR
  go_enter Tryz.func145,Tryz.ntmps145
  go_wp2_with fail
  refine (H1 _).out.mono ?_
  rintro e w1 ⟨rfl,hb1⟩
  have HB1:=Jh hb1
  clear hb1
  go_wp2_with fail
  refine (H2 _).out.mono ?_
  rintro e w2 ⟨rfl,hb2⟩
  have HB2 : Hid (Below w.heap.size w w2):=belS HB1.out hb2
  clear hb2
  go_wp2_with fail
  refine (H3 _).out.mono ?_
  rintro e w3 ⟨rfl,hb3⟩
  have HB3 : Hid (Below w.heap.size w w3):=belS HB2.out hb3
  clear hb3
  go_wp2_with fail
  all_goals go_ret2
  all_goals exact ⟨by rw [← HV1.out,HL.out]; rfl,HB3.out⟩
 ·have d0 : decide (a < 0) = false:=by simpa using h0
  have hRX : R = (X : Int):=by
   rw [← hR,← hcast,show a = (n : Int) by omega]
  have HV : Hid (IntKind.i64.wrap (hi : Int) = hiQ R ∧ (lo : Int) = loQ R):=by
   rw [hRX]
   unfold hiQ loQ
   rw [IntKind.wrap_i64]
   constructor
   ·omega
   ·omega
  rw [hR]
  have HV1 : Hid (wrap64 (hi : Int) = hiQ R):=(IntWalk.i64_left _).symm.trans HV.out.1
  have HL : Hid (loQ R = (lo : Int)):=HV.out.2.symm
  clear hn hn2 hX hXe hhi hlo hhb hlb hcast h0 hRX ha hk hk2 HV hR
  go_enter Tryz.func145,Tryz.ntmps145
  go_wp2_with fail
  refine (H1 _).out.mono ?_
  rintro e w1 ⟨rfl,hb1⟩
  have HB1:=Jh hb1
  clear hb1
  go_wp2_with fail
  refine (H2 _).out.mono ?_
  rintro e w2 ⟨rfl,hb2⟩
  have HB2 : Hid (Below w.heap.size w w2):=belS HB1.out hb2
  clear hb2
  go_wp2_with fail
  refine (H3 _).out.mono ?_
  rintro e w3 ⟨rfl,hb3⟩
  have HB3 : Hid (Below w.heap.size w w3):=belS HB2.out hb3
  clear hb3
  go_wp2_with fail
  all_goals go_ret2
  all_goals exact ⟨by rw [← HV1.out,HL.out]; rfl,HB3.out⟩
theorem nan231_any (a : Int) (w : World) : Calls Tryz.prog 231 #[.int .u64 a] w fun e w' => e = .returned (.bool false) ∧ w' = w:=by
 go_enter Tryz.func231,Tryz.ntmps231
 go_wp2_with fail
 all_goals go_ret
 all_goals exact ⟨z01 (by simp),rfl⟩
theorem cmp210_any (a b : Int) (w : World) : Calls Tryz.prog 210 #[.int .u64 a,.int .u64 b] w fun e w' => e = .returned (.int .i64 (cmpI a b)) ∧ w' = w:=by
 unfold cmpI
 go_enter Tryz.func210,Tryz.ntmps210
 go_wp2_with fail
 refine (nan231_any _ _).mono ?_
 rintro e w1 ⟨rfl,rfl⟩
 go_wp2_with fail
 refine (nan231_any _ _).mono ?_
 rintro e w1 ⟨rfl,rfl⟩
 go_wp2_with fail
 all_goals go_ret
 all_goals exact ⟨z0u (by simp_all <;> omega),rfl⟩
theorem zero149_any (w : World) : Calls Tryz.prog 149 #[] w fun e w' => e = .returned (.int .i64 0) ∧ w' = w:=by
 go_enter Tryz.func149,Tryz.ntmps149
 go_wp2_with fail
 all_goals go_ret
 all_goals exact ⟨rfl,rfl⟩
theorem first148_any (x y : Int) (w : World) :
 Calls Tryz.prog 148 #[.int .u64 x,.int .u64 y,.func (.func 149) #[] #[]] w fun e w' => e = .returned (.int .i64 (cmpI x y)) ∧ Below w.heap.size w w':=by
 have HP:=Jh (cmp210_any x y w)
 have HZ:=Jh (zero149_any w)
 obtain ⟨c,hc⟩ : ∃ c,cmpI x y = c:=⟨_,rfl⟩
 rw [hc] at HP ⊢
 clear hc
 by_cases h0 : c = 0
 ·subst h0
  go_enter Tryz.func148,Tryz.ntmps148
  go_wp2_with fail
  refine HP.out.mono ?_
  rintro e w1 ⟨rfl,hw1⟩
  obtain rfl:=hw1.symm
  go_wp2_with fail
  refine HZ.out.mono ?_
  rintro e w2 ⟨rfl,hw2⟩
  obtain rfl:=hw2.symm
  go_wp2_with fail
  all_goals go_ret
  all_goals exact ⟨rfl,Below.refl _ _⟩
 ·have q : (c != 0) = true:=by simpa using h0
  clear h0
  go_enter Tryz.func148,Tryz.ntmps148
  go_wp2_with fail
  refine HP.out.mono ?_
  rintro e w1 ⟨rfl,hw1⟩
  obtain rfl:=hw1.symm
  go_wp2_with fail
  all_goals go_ret
  all_goals exact ⟨rfl,Below.refl _ _⟩
theorem clo147_any {x y : Int} {b c : Nat} {w : World} (hb : w.heap[b]? = some (.cells #[.int .u64 x] 158 (0,0))) (hc : w.heap[c]? = some (.cells #[.int .u64 y] 158 (0,0))) :
 Calls Tryz.prog 147 #[.pointer (some ⟨b,0,none⟩),.pointer (some ⟨c,0,none⟩)] w fun e w' => e = .returned (.int .i64 (cmpI x y)) ∧ Below w.heap.size w w':=by
 have x0:=Jc hb 0
 have x1:=Jc hc 0
 have xl:=(Array.getElem?_eq_some_iff.1 hb).1
 have xm:=(Array.getElem?_eq_some_iff.1 hc).1
 simp only [J9,J7] at x0 x1
 have HP:=Jh (first148_any x y w)
 clear hb hc
 go_enter Tryz.func147,Tryz.ntmps147
 go_wp2_with fail
 refine HP.out.mono ?_
 rintro e w1 ⟨rfl,hb1⟩
 have HB1:=Jh hb1
 clear hb1 x0 x1 xl xm
 go_wp2_with fail
 all_goals go_ret
 all_goals exact ⟨rfl,HB1.out⟩
theorem cmp_hilo (X Y : Int) : (if cmpI (hiQ X) (hiQ Y) = 0 then cmpI (loQ X) (loQ Y) else cmpI (hiQ X) (hiQ Y)) = cmpI X Y:=by
 unfold cmpI hiQ loQ
 by_cases h1 : X / 18446744073709551616 < Y / 18446744073709551616
 ·rw [if_pos h1,if_neg (by omega),if_pos (by omega)]
 by_cases h2 : Y / 18446744073709551616 < X / 18446744073709551616
 ·rw [if_neg h1,if_pos h2,if_neg (by omega),if_neg (by omega),if_pos (by omega)]
 rw [if_neg h1,if_neg h2,if_pos rfl]
 split
 ·rw [if_pos (by omega)]
 split
 ·rw [if_neg (by omega),if_pos (by omega)]
 ·rw [if_neg (by omega),if_neg (by omega)]
theorem compare81_any (a b : Int) (p q : Nat) (w : World) (ia : in64 a) (ib : in64 b) (p1 : 1 ≤ p) (p2 : p ≤ 1048576) (q1 : 1 ≤ q) (q2 : q ≤ 1048576) :
 Calls Tryz.prog 81 #[.agg #[.int .i64 a,.int .i64 (p : Nat)],.agg #[.int .i64 b,.int .i64 (q : Nat)]] w fun e w' => e = .returned (.int .i64 (cmpI (a * q) (b * p))) ∧ Below w.heap.size w w':=by
 obtain ⟨WB,hWWB⟩ : ∃ WB,WB = (w.alloc (.cells #[.int .i64 a,.int .i64 (p : Nat)] 50)).alloc (.cells #[.int .i64 b,.int .i64 (q : Nat)] 50):=⟨_,rfl⟩
 have hbWB : Below w.heap.size w WB:=by rw [hWWB]; exact (z0c _ _).alloc (by simp) _
 have hx0 : WB.heap[w.heap.size]? = some (.cells #[.int .i64 a,.int .i64 (p : Nat)] 50 (0,0)):=by rw [hWWB]; exact (Jb _ _ _ (by simp)).trans (z03 rfl)
 have hx1 : WB.heap[w.heap.size + 1]? = some (.cells #[.int .i64 b,.int .i64 (q : Nat)] 50 (0,0)):=by rw [hWWB]; exact z03 (by simp)
 have HX : Hid (∀ W,Below WB.heap.size WB W → W.heap[w.heap.size]? = some (.cells #[.int .i64 a,.int .i64 (p : Nat)] 50 (0,0)) ∧ W.heap[w.heap.size + 1]? = some (.cells #[.int .i64 b,.int .i64 (q : Nat)] 50 (0,0))):=fun W hW => ⟨(hW.block _ (Array.getElem?_eq_some_iff.1 hx0).1).trans hx0,(hW.block _ (Array.getElem?_eq_some_iff.1 hx1).1).trans hx1⟩
 have HF : Hid (∀ W,Below WB.heap.size WB W → W.cell? ⟨w.heap.size,0,none⟩ = some (.int .i64 a) ∧ W.cell? ⟨w.heap.size,1,none⟩ = some (.int .i64 (p : Nat)) ∧ W.cell? ⟨w.heap.size + 1,0,none⟩ = some (.int .i64 b) ∧ W.cell? ⟨w.heap.size + 1,1,none⟩ = some (.int .i64 (q : Nat)) ∧ w.heap.size < W.heap.size ∧ w.heap.size + 1 < W.heap.size):=by
  intro W hW
  obtain ⟨k0,k1⟩:=HX.out W hW
  exact ⟨Jc k0 0,Jc k0 1,Jc k1 0,Jc k1 1,(Array.getElem?_eq_some_iff.1 k0).1,(Array.getElem?_eq_some_iff.1 k1).1⟩
 have HBB:=Jh hbWB
 have HWB:=Jh hWWB.symm
 clear hWWB hbWB hx0 hx1
 have H1:=fun W => Jh (z3q a q W ia q1 q2)
 have H2:=fun W => Jh (z3q b p W ib p1 p2)
 have HC:=Jh (cmp_hilo (a * q) (b * p))
 obtain ⟨h,hh⟩ : ∃ h,hiQ (a * q) = h:=⟨_,rfl⟩
 obtain ⟨l,hl⟩ : ∃ l,loQ (a * q) = l:=⟨_,rfl⟩
 obtain ⟨k,hk⟩ : ∃ k,hiQ (b * p) = k:=⟨_,rfl⟩
 obtain ⟨m,hm⟩ : ∃ m,loQ (b * p) = m:=⟨_,rfl⟩
 rw [hh,hl] at H1 HC
 rw [hk,hm] at H2 HC
 clear hh hl hk hm ia ib p1 p2 q1 q2
 obtain ⟨xf0,xf1,xf2,xf3,xf4,xf5⟩:=HF.out WB (Below.refl _ _)
 go_enter Tryz.func81,Tryz.ntmps81
 go_upto_region 1 with fail
 rw [HWB.out]
 clear HWB
 go_wp2_with fail
 refine (H1 _).out.mono ?_
 rintro e w1 ⟨rfl,hb1⟩
 have HB1:=Jh hb1
 clear hb1
 clear xf0 xf1 xf2 xf3 xf4 xf5
 go_upto_region 2 with fail
 obtain ⟨W2,hW2⟩ : ∃ W2,W2 = w1.alloc (.cells #[.int .u64 l] 158):=⟨_,rfl⟩
 have hb2 : Below WB.heap.size WB W2:=by rw [hW2]; exact belA' HB1.out _
 have hx2 : W2.heap[w1.heap.size]? = some (.cells #[.int .u64 l] 158 (0,0)):=by rw [hW2]; exact z03 rfl
 have HB2:=Jh hb2
 have HX2:=Jh hx2
 rw [← hW2]
 clear hW2 hb2 hx2
 obtain ⟨xf0,xf1,xf2,xf3,xf4,xf5⟩:=HF.out W2 (HB2.out)
 go_wp2_with fail
 refine (H2 _).out.mono ?_
 rintro e w3 ⟨rfl,hb3⟩
 have HX3 : Hid (w3.heap[w1.heap.size]? = some (.cells #[.int .u64 l] 158 (0,0))):=(hb3.block _ (Array.getElem?_eq_some_iff.1 HX2.out).1).trans HX2.out
 have HB3 : Hid (Below WB.heap.size WB w3):=belS HB2.out hb3
 clear hb3
 clear xf0 xf1 xf2 xf3 xf4 xf5
 go_upto_region 3 with fail
 obtain ⟨W4,hW4⟩ : ∃ W4,W4 = w3.alloc (.cells #[.int .u64 m] 158):=⟨_,rfl⟩
 have hx4 : W4.heap[w3.heap.size]? = some (.cells #[.int .u64 m] 158 (0,0)):=by rw [hW4]; exact z03 rfl
 have hx5 : W4.heap[w1.heap.size]? = some (.cells #[.int .u64 l] 158 (0,0)):=by rw [hW4]; exact (Jb _ _ _ (Array.getElem?_eq_some_iff.1 HX3.out).1).trans HX3.out
 have HB4 : Hid (Below WB.heap.size WB W4):=by rw [Hid,hW4]; exact belA' HB3.out _
 have HFI:=Jh (z5p h k (cmpI l m) 147 _ W4 (z2g Tryz.func147 (by kernel_rfl) (by kernel_rfl)) (clo147_any hx5 hx4))
 have hmf : ∀ (fn : Fn) (first cap : Array Value) (w : World),(Instr.makeFunc fn first cap).run Tryz.prog w = .ok (.func fn first cap) w:=fun _ _ _ _ => by simp [Instr.makeFunc,go_sem]
 rw [← hW4]
 rw [HC.out] at HFI
 clear hW4 hx4 hx5
 go_wp2_with fail
 refine HFI.out.mono ?_
 rintro e w5 ⟨rfl,hb5⟩
 have HB5 : Hid (Below WB.heap.size WB w5):=belS HB4.out hb5
 clear hb5 hmf
 go_wp2_with fail
 all_goals go_ret
 all_goals exact ⟨rfl,HBB.out.trans (HB5.out.mono HBB.out.size)⟩
def cmpE (a b : Int × Int) : Int:=if mayP a && mayP b then cmpI (a.1 * b.2) (b.1 * a.2) else 0
theorem ratsE_two (a b : Int × Int) : z3z [a,b] = if mayP a && mayP b then 0 else 8:=by
 unfold z3z mayP
 simp
theorem cmp34_any (a p b q : Int) (w : World) (ia : in64 a) (ib : in64 b) :
 Calls Tryz.prog 34 #[.agg #[.int .i64 a,.int .i64 p],.agg #[.int .i64 b,.int .i64 q]] w fun e w' => e = .returned (.tuple #[.int .i64 (cmpE (a,p) (b,q)),.int .i64 (z3z [(a,p),(b,q)])]) ∧ Below w.heap.size w w':=by
 obtain ⟨WB,hWWB⟩ : ∃ WB,WB = (w.alloc (.cells #[.int .i64 a,.int .i64 p] 50)).alloc (.cells #[.int .i64 b,.int .i64 q] 50):=⟨_,rfl⟩
 have hbWB : Below w.heap.size w WB:=by rw [hWWB]; exact (z0c _ _).alloc (by simp) _
 have hx0 : WB.heap[w.heap.size]? = some (.cells #[.int .i64 a,.int .i64 p] 50 (0,0)):=by rw [hWWB]; exact (Jb _ _ _ (by simp)).trans (z03 rfl)
 have hx1 : WB.heap[w.heap.size + 1]? = some (.cells #[.int .i64 b,.int .i64 q] 50 (0,0)):=by rw [hWWB]; exact z03 (by simp)
 have HX : Hid (∀ W,Below WB.heap.size WB W → W.heap[w.heap.size]? = some (.cells #[.int .i64 a,.int .i64 p] 50 (0,0)) ∧ W.heap[w.heap.size + 1]? = some (.cells #[.int .i64 b,.int .i64 q] 50 (0,0))):=fun W hW => ⟨(hW.block _ (Array.getElem?_eq_some_iff.1 hx0).1).trans hx0,(hW.block _ (Array.getElem?_eq_some_iff.1 hx1).1).trans hx1⟩
 have HF : Hid (∀ W,Below WB.heap.size WB W → W.cell? ⟨w.heap.size,0,none⟩ = some (.int .i64 a) ∧ W.cell? ⟨w.heap.size,1,none⟩ = some (.int .i64 p) ∧ W.cell? ⟨w.heap.size + 1,0,none⟩ = some (.int .i64 b) ∧ W.cell? ⟨w.heap.size + 1,1,none⟩ = some (.int .i64 q) ∧ w.heap.size < W.heap.size ∧ w.heap.size + 1 < W.heap.size):=by
  intro W hW
  obtain ⟨k0,k1⟩:=HX.out W hW
  exact ⟨Jc k0 0,Jc k0 1,Jc k1 0,Jc k1 1,(Array.getElem?_eq_some_iff.1 k0).1,(Array.getElem?_eq_some_iff.1 k1).1⟩
 have HBB:=Jh hbWB
 have HWB:=Jh hWWB.symm
 clear hWWB hbWB hx0 hx1
 have HCK : Hid (∀ W u c,W.heap[u]? = some (.cells #[.int .i64 a,.int .i64 p,.int .i64 b,.int .i64 q] 50 (0,0)) → Calls Tryz.prog 80 #[.slice (some ⟨u,0,none⟩) 2 c] W fun e w' => e = .returned (.int .i64 (z3z [(a,p),(b,q)])) ∧ Below W.heap.size W w'):=by
  intro W u c hu
  have hr : RatR W u [(a,p),(b,q)]:=by
   refine ⟨(Array.getElem?_eq_some_iff.1 hu).1,fun k hk => ?_⟩
   match k,hk with
   | 0,_ => exact ⟨by rw [Jc hu]; rfl,by rw [Jc hu]; rfl⟩
   | 1,_ => exact ⟨by rw [Jc hu]; rfl,by rw [Jc hu]; rfl⟩
  exact z4q (c:=c) hr (by simp) (by
   intro x hx
   simp only [List.mem_cons,List.not_mem_nil,or_false] at hx
   rcases hx with rfl | rfl
   ·exact ia
   ·exact ib)
 have HB2 : Hid (Below WB.heap.size WB (WB.alloc (.cells #[.int .i64 a,.int .i64 p,.int .i64 b,.int .i64 q] 50))):=z0c _ _
 have HK0:=Jh (HCK.out (WB.alloc (.cells #[.int .i64 a,.int .i64 p,.int .i64 b,.int .i64 q] 50)) WB.heap.size 2 (z03 rfl))
 rw [ratsE_two] at HK0 ⊢
 obtain ⟨xf0,xf1,xf2,xf3,xf4,xf5⟩:=HF.out WB (Below.refl _ _)
 by_cases hm : (mayP (a,p) && mayP (b,q)) = true
 ·have hmm:=hm
  simp only [Bool.and_eq_true] at hmm
  obtain ⟨a1,a2,_,_⟩:=z1u hmm.1
  obtain ⟨b1,b2,_,_⟩:=z1u hmm.2
  have HE : Hid (cmpE (a,p) (b,q) = cmpI (a * q) (b * p)):=by rw [Hid,cmpE,if_pos hm]
  rw [if_pos hm] at HK0 ⊢
  have HC : Hid (∀ W,Calls Tryz.prog 81 #[.agg #[.int .i64 a,.int .i64 p],.agg #[.int .i64 b,.int .i64 q]] W fun e w' => e = .returned (.int .i64 (cmpI (a * q) (b * p))) ∧ Below W.heap.size W w'):=by
   intro W
   obtain ⟨k,rfl⟩ : ∃ k : Nat,p = k:=⟨p.toNat,by omega⟩
   obtain ⟨m,rfl⟩ : ∃ m : Nat,q = m:=⟨q.toNat,by omega⟩
   exact compare81_any a b k m W ia ib (by omega) (by omega) (by omega) (by omega)
  obtain ⟨c,hc⟩ : ∃ c,cmpI (a * q) (b * p) = c:=⟨_,rfl⟩
  rw [hc] at HE HC
  rw [HE.out]
  clear hm hmm a1 a2 b1 b2 ia ib hc HE HCK
  go_enter Tryz.func34,Tryz.ntmps34
  go_upto_region 1 with fail
  rw [HWB.out]
  clear HWB
  go_wp2_with fail
  refine HK0.out.mono ?_
  rintro e w1 ⟨rfl,hb1⟩
  have HB1 : Hid (Below WB.heap.size WB w1):=belS HB2.out hb1
  clear hb1
  clear xf0 xf1 xf2 xf3 xf4 xf5
  obtain ⟨xf0,xf1,xf2,xf3,xf4,xf5⟩:=HF.out w1 (HB1.out)
  go_wp2_with fail
  refine (HC.out _).mono ?_
  rintro e w2 ⟨rfl,hb2⟩
  have HB3 : Hid (Below WB.heap.size WB w2):=belS HB1.out hb2
  clear hb2
  clear xf0 xf1 xf2 xf3 xf4 xf5
  go_wp2_with fail
  all_goals go_ret2
  all_goals exact ⟨rfl,HBB.out.trans (HB3.out.mono HBB.out.size)⟩
 ·have HE : Hid (cmpE (a,p) (b,q) = 0):=by rw [Hid,cmpE,if_neg hm]
  rw [if_neg hm] at HK0 ⊢
  rw [HE.out]
  clear hm HE HCK ia ib
  go_enter Tryz.func34,Tryz.ntmps34
  go_upto_region 1 with fail
  rw [HWB.out]
  clear HWB
  go_wp2_with fail
  refine HK0.out.mono ?_
  rintro e w1 ⟨rfl,hb1⟩
  have HB1 : Hid (Below WB.heap.size WB w1):=belS HB2.out hb1
  clear hb1
  clear xf0 xf1 xf2 xf3 xf4 xf5
  go_wp2_with fail
  all_goals go_ret2
  all_goals exact ⟨rfl,HBB.out.trans (HB1.out.mono HBB.out.size)⟩
theorem less_eq (a b : Int × Int) : z0f a b = (decide (z3z [a,b] = 0) && decide (cmpE a b < 0)):=by
 rw [ratsE_two]
 unfold z0f cmpE ltQ cmpI
 by_cases h : (mayP a && mayP b) = true
 ·rw [if_pos h,if_pos h,h,Bool.true_and,decide_eq_true rfl,Bool.true_and,decide_eq_decide]
  by_cases h1 : a.1 * b.2 < b.1 * a.2
  ·rw [if_pos h1]; exact ⟨fun _ => by omega,fun _ => h1⟩
  ·rw [if_neg h1]
   refine ⟨fun h2 => absurd h2 h1,fun h2 => ?_⟩
   split at h2 <;> omega
 ·rw [if_neg h,if_neg h,Bool.eq_false_iff.2 h]; rfl
theorem z16 (a p b q : Int) (w : World) (ia : in64 a) (ib : in64 b) :
 Calls Tryz.prog 217 #[.agg #[.int .i64 a,.int .i64 p],.agg #[.int .i64 b,.int .i64 q]] w fun e w' => e = .returned (.bool (z0f (a,p) (b,q))) ∧ Below w.heap.size w w':=by
 obtain ⟨WB,hWWB⟩ : ∃ WB,WB = (w.alloc (.cells #[.int .i64 a,.int .i64 p] 50)).alloc (.cells #[.int .i64 b,.int .i64 q] 50):=⟨_,rfl⟩
 have hbWB : Below w.heap.size w WB:=by rw [hWWB]; exact (z0c _ _).alloc (by simp) _
 have hx0 : WB.heap[w.heap.size]? = some (.cells #[.int .i64 a,.int .i64 p] 50 (0,0)):=by rw [hWWB]; exact (Jb _ _ _ (by simp)).trans (z03 rfl)
 have hx1 : WB.heap[w.heap.size + 1]? = some (.cells #[.int .i64 b,.int .i64 q] 50 (0,0)):=by rw [hWWB]; exact z03 (by simp)
 have HX : Hid (∀ W,Below WB.heap.size WB W → W.heap[w.heap.size]? = some (.cells #[.int .i64 a,.int .i64 p] 50 (0,0)) ∧ W.heap[w.heap.size + 1]? = some (.cells #[.int .i64 b,.int .i64 q] 50 (0,0))):=fun W hW => ⟨(hW.block _ (Array.getElem?_eq_some_iff.1 hx0).1).trans hx0,(hW.block _ (Array.getElem?_eq_some_iff.1 hx1).1).trans hx1⟩
 have HF : Hid (∀ W,Below WB.heap.size WB W → W.cell? ⟨w.heap.size,0,none⟩ = some (.int .i64 a) ∧ W.cell? ⟨w.heap.size,1,none⟩ = some (.int .i64 p) ∧ W.cell? ⟨w.heap.size + 1,0,none⟩ = some (.int .i64 b) ∧ W.cell? ⟨w.heap.size + 1,1,none⟩ = some (.int .i64 q) ∧ w.heap.size < W.heap.size ∧ w.heap.size + 1 < W.heap.size):=by
  intro W hW
  obtain ⟨k0,k1⟩:=HX.out W hW
  exact ⟨Jc k0 0,Jc k0 1,Jc k1 0,Jc k1 1,(Array.getElem?_eq_some_iff.1 k0).1,(Array.getElem?_eq_some_iff.1 k1).1⟩
 have HBB:=Jh hbWB
 have HWB:=Jh hWWB.symm
 clear hWWB hbWB hx0 hx1
 obtain ⟨xf0,xf1,xf2,xf3,xf4,xf5⟩:=HF.out WB (Below.refl _ _)
 have HC:=fun W => Jh (cmp34_any a p b q W ia ib)
 have HE:=Jh (less_eq (a,p) (b,q))
 obtain ⟨c,hc⟩ : ∃ c,cmpE (a,p) (b,q) = c:=⟨_,rfl⟩
 obtain ⟨r,hr⟩ : ∃ r,z3z [(a,p),(b,q)] = r:=⟨_,rfl⟩
 rw [hc,hr] at HC HE
 rw [HE.out]
 clear hc hr ia ib HE
 go_enter Tryz.func217,Tryz.ntmps217
 go_upto_region 1 with fail
 rw [HWB.out]
 clear HWB
 go_wp2_with fail
 refine (HC _).out.mono ?_
 rintro e w1 ⟨rfl,hb1⟩
 have HB1:=Jh hb1
 clear hb1
 clear xf0 xf1 xf2 xf3 xf4 xf5
 go_wp2_with fail
 all_goals go_ret
 all_goals exact ⟨z01 (by simp_all),HBB.out.trans (HB1.out.mono HBB.out.size)⟩
open Go.RowKit
theorem z4c (wk sd m : Int) (a3 a4 : Option Addr) (l3 l4 c3 c4 : Nat) (w : World) :
 Calls Tryz.prog 216 #[.agg #[.int .u8 wk,.int .u8 sd,.slice a3 l3 c3,.slice a4 l4 c4],.int .i64 m] w fun e w' => e = .returned (.bool ((sd == 0) && ((l3 : Int) == 0) && ((l4 : Int) == m))) ∧ Below w.heap.size w w':=by
 obtain ⟨WB,hWWB⟩ : ∃ WB,WB = w.alloc (.cells #[.int .u8 wk,.int .u8 sd,.slice a3 l3 c3,.slice a4 l4 c4] 56):=⟨_,rfl⟩
 have hbWB : Below w.heap.size w WB:=by rw [hWWB]; exact z0c _ _
 have hx0 : WB.heap[w.heap.size]? = some (.cells #[.int .u8 wk,.int .u8 sd,.slice a3 l3 c3,.slice a4 l4 c4] 56 (0,0)):=by rw [hWWB]; exact z03 rfl
 have HX : Hid (∀ W,Below WB.heap.size WB W → W.heap[w.heap.size]? = some (.cells #[.int .u8 wk,.int .u8 sd,.slice a3 l3 c3,.slice a4 l4 c4] 56 (0,0))):=fun W hW => (hW.block _ (Array.getElem?_eq_some_iff.1 hx0).1).trans hx0
 have HF : Hid (∀ W,Below WB.heap.size WB W → W.cell? ⟨w.heap.size,0,none⟩ = some (.int .u8 wk) ∧ W.cell? ⟨w.heap.size,1,none⟩ = some (.int .u8 sd) ∧ W.cell? ⟨w.heap.size,2,none⟩ = some (.slice a3 l3 c3) ∧ W.cell? ⟨w.heap.size,3,none⟩ = some (.slice a4 l4 c4) ∧ w.heap.size < W.heap.size):=by
  intro W hW
  have k0:=HX.out W hW
  exact ⟨Jc k0 0,Jc k0 1,Jc k0 2,Jc k0 3,(Array.getElem?_eq_some_iff.1 k0).1⟩
 have HBB:=Jh hbWB
 have HWB:=Jh hWWB.symm
 clear hWWB hbWB hx0
 obtain ⟨xf0,xf1,xf2,xf3,xf4⟩:=HF.out WB (Below.refl _ _)
 cases d1 : (sd == 0) with
 | false =>
  go_enter Tryz.func216,Tryz.ntmps216
  go_upto_region 1 with fail
  rw [HWB.out]
  clear HWB
  go_wp2_with fail
  all_goals go_ret
  all_goals exact ⟨rfl,HBB.out⟩
 | true =>
  cases d2 : ((l3 : Int) == 0) with
  | false =>
   go_enter Tryz.func216,Tryz.ntmps216
   go_upto_region 1 with fail
   rw [HWB.out]
   clear HWB
   go_wp2_with fail
   all_goals go_ret
   all_goals exact ⟨rfl,HBB.out⟩
  | true =>
   go_enter Tryz.func216,Tryz.ntmps216
   go_upto_region 1 with fail
   rw [HWB.out]
   clear HWB
   go_wp2_with fail
   all_goals go_ret
   all_goals exact ⟨rfl,HBB.out⟩
theorem z2h (n : Int) (w : World) : Calls Tryz.prog 215 #[.int .i64 n] w fun e w' => e = .returned (.agg #[.int .i64 n,.int .i64 1]) ∧ Below w.heap.size w w':=by
 go_enter Tryz.func215,Tryz.ntmps215
 go_wp2_with fail
 refine bodyPost_ret (results_cell_row rfl _ _ _ _ _ _ _ rfl (z03 rfl) Tryz.underlying50 rfl (by kernel_rfl)) rfl ?_
 exact ⟨rfl,z0c _ _⟩
theorem check_two {n : Int} (h1 : -288230376151711744 ≤ n) (h2 : n ≤ 288230376151711744) (z : Int) (hz : z = 0 ∨ z = 1) : z1b (2 * n + z) = true:=by
 unfold z1b
 have h : (2 * n + z) / 2 = n:=by omega
 rw [h]
 simp only [z3r,Bool.or_eq_true,Bool.and_eq_true,decide_eq_true_eq]
 right; omega
theorem z5m {a p b q n : Int} (st : Bool) (w : World) (ha : mayQ a p = true) (hb : mayQ b q = true) (ia : in64 a) (ib : in64 b) (h1 : -288230376151711744 ≤ n) (h2 : n ≤ 288230376151711744) :
 Calls Tryz.prog 218 #[.agg #[.int .i64 a,.int .i64 p],.agg #[.int .i64 b,.int .i64 q],.int .i64 n,.bool st] w fun e w' => e = .returned (.bool (z0s a p b q (2 * n + if st then 0 else 1))) ∧ Below w.heap.size w w':=by
 obtain ⟨WB,hWWB⟩ : ∃ WB,WB = (w.alloc (.cells #[.int .i64 a,.int .i64 p] 50)).alloc (.cells #[.int .i64 b,.int .i64 q] 50):=⟨_,rfl⟩
 have hbWB : Below w.heap.size w WB:=by rw [hWWB]; exact (z0c _ _).alloc (by simp) _
 have hx0 : WB.heap[w.heap.size]? = some (.cells #[.int .i64 a,.int .i64 p] 50 (0,0)):=by rw [hWWB]; exact (Jb _ _ _ (by simp)).trans (z03 rfl)
 have hx1 : WB.heap[w.heap.size + 1]? = some (.cells #[.int .i64 b,.int .i64 q] 50 (0,0)):=by rw [hWWB]; exact z03 (by simp)
 have HX : Hid (∀ W,Below WB.heap.size WB W → W.heap[w.heap.size]? = some (.cells #[.int .i64 a,.int .i64 p] 50 (0,0)) ∧ W.heap[w.heap.size + 1]? = some (.cells #[.int .i64 b,.int .i64 q] 50 (0,0))):=fun W hW => ⟨(hW.block _ (Array.getElem?_eq_some_iff.1 hx0).1).trans hx0,(hW.block _ (Array.getElem?_eq_some_iff.1 hx1).1).trans hx1⟩
 have HF : Hid (∀ W,Below WB.heap.size WB W → W.cell? ⟨w.heap.size,0,none⟩ = some (.int .i64 a) ∧ W.cell? ⟨w.heap.size,1,none⟩ = some (.int .i64 p) ∧ W.cell? ⟨w.heap.size + 1,0,none⟩ = some (.int .i64 b) ∧ W.cell? ⟨w.heap.size + 1,1,none⟩ = some (.int .i64 q) ∧ w.heap.size < W.heap.size ∧ w.heap.size + 1 < W.heap.size):=by
  intro W hW
  obtain ⟨k0,k1⟩:=HX.out W hW
  exact ⟨Jc k0 0,Jc k0 1,Jc k1 0,Jc k1 1,(Array.getElem?_eq_some_iff.1 k0).1,(Array.getElem?_eq_some_iff.1 k1).1⟩
 have HBB:=Jh hbWB
 have HWB:=Jh hWWB.symm
 clear hWWB hbWB hx0 hx1
 obtain ⟨xf0,xf1,xf2,xf3,xf4,xf5⟩:=HF.out WB (Below.refl _ _)
 obtain ⟨m,hm⟩ : ∃ m,2 * n = m:=⟨_,rfl⟩
 obtain ⟨x,hx⟩ : ∃ x,m + 1 = x:=⟨_,rfl⟩
 have hxm : x - 1 = m:=by omega
 have v1 : IntKind.i64.wrap (2 * n) = m:=by rw [hm]; exact IntWalk.i64_in _ (by omega)
 have v1' : wrap64 (2 * n) = m:=by rw [hm]; exact IntWalk.wrap64_in _ (by omega)
 have v2 : IntKind.i64.wrap (m + 1) = x:=by rw [hx]; exact IntWalk.i64_in _ (by omega)
 have v2' : wrap64 (m + 1) = x:=by rw [hx]; exact IntWalk.wrap64_in _ (by omega)
 have v3 : IntKind.i64.wrap (x - 1) = m:=by rw [hxm]; exact IntWalk.i64_in _ (by omega)
 have v3' : wrap64 (x - 1) = m:=by rw [hxm]; exact IntWalk.wrap64_in _ (by omega)
 cases st with
 | false =>
  have hk:=fun W => z5n (w:=W) ha hb (check_two h1 h2 1 (.inr rfl)) ia ib
  rw [hm,hx] at hk
  rw [show (2 * n + if (false : Bool) = true then (0 : Int) else 1) = x by rw [hm]; exact hx]
  have HK:=fun W => Jh (hk W)
  obtain ⟨z,hz⟩ : ∃ z,z0s a p b q x = z:=⟨_,rfl⟩
  rw [hz] at HK ⊢
  clear hz ha hb ia ib h1 h2 hm hx hxm hk
  go_enter Tryz.func218,Tryz.ntmps218
  go_upto_region 1 with fail
  rw [HWB.out]
  clear HWB
  go_wp2_with fail
  refine (HK _).out.mono ?_
  rintro e w1 ⟨rfl,hb1⟩
  have HB1:=Jh hb1
  clear hb1
  clear xf0 xf1 xf2 xf3 xf4 xf5
  go_wp2_with fail
  all_goals go_ret
  all_goals exact ⟨rfl,HBB.out.trans (HB1.out.mono HBB.out.size)⟩
 | true =>
  have hk:=fun W => z5n (w:=W) ha hb (check_two h1 h2 0 (.inl rfl)) ia ib
  rw [hm,Int.add_zero] at hk
  rw [show (2 * n + if (true : Bool) = true then (0 : Int) else 1) = m by rw [hm]; exact Int.add_zero m]
  have HK:=fun W => Jh (hk W)
  obtain ⟨z,hz⟩ : ∃ z,z0s a p b q m = z:=⟨_,rfl⟩
  rw [hz] at HK ⊢
  clear hz ha hb ia ib h1 h2 hm hx hxm hk
  go_enter Tryz.func218,Tryz.ntmps218
  go_upto_region 1 with fail
  rw [HWB.out]
  clear HWB
  go_wp2_with fail
  refine (HK _).out.mono ?_
  rintro e w1 ⟨rfl,hb1⟩
  have HB1:=Jh hb1
  clear hb1
  clear xf0 xf1 xf2 xf3 xf4 xf5
  go_wp2_with fail
  all_goals go_ret
  all_goals exact ⟨rfl,HBB.out.trans (HB1.out.mono HBB.out.size)⟩
end Go.Proofs.YtockinpjfhhkoaaGreatDoor
