/- AtomsDoes: the document's fractions walked: common, alone, May, Floor. (Printed by gen_dom.py.) -/
import Derived.Deep.RegionHeld
import Derived.Deep.Cut
import Derived.LoopTactic
import Derived.Test.YtockinpjfhhkoaaGreatDoorZ23
import Derived.Test.YtockinpjfhhkoaaGreatDoorZ31
import Derived.Test.YtockinpjfhhkoaaGreatDoorZ05
set_option maxRecDepth 100000
set_option maxHeartbeats 16000000
open List renaming setIfInBounds_toArray → J1, set_cons_zero → J2, set_cons_succ → J3, getElem_toArray → J4, getElem_cons_zero → J5, getElem_cons_succ → J6
open Go.Lib renaming cell_of_heap → Jc, hid → Jh
open Go.AllReadyH renaming cons → Jd, nil → Je
open Go renaming wpAnyH_ready → Jr
namespace Go.Proofs.YtockinpjfhhkoaaGreatDoor
open Go.RowKit
theorem common180_any (a b : Nat) (w : World) (ha : a < 9223372036854775808) (hb : b < 9223372036854775808) :
 Calls Tryz.prog 180 #[.int .i64 (a : Nat),.int .i64 (b : Nat)] w fun e w' => e = .returned (.int .i64 (Nat.gcd a b : Nat)) ∧ Below w.heap.size w w':=by
 obtain ⟨G,hG0⟩ : ∃ G,Nat.gcd a b = G:=⟨_,rfl⟩
 have H0:=Jh hG0
 rw [hG0]
 clear hG0
 go_enter Tryz.func180,Tryz.ntmps180
 go_wp2_with fail
 go_loopw [0,1] (fun x y wr => ∃ c d : Nat,x = .int .i64 c ∧ y = .int .i64 d ∧ c < 9223372036854775808 ∧ d < 9223372036854775808 ∧ Hid (Nat.gcd c d = G) ∧ Below w.heap.size w wr) (fun _ y _ => (intOf y).toNat)
 case atStart => exact ⟨a,b,rfl,rfl,ha,hb,H0,Below.refl _ _⟩
 case round =>
  obtain ⟨c,d,rfl,rfl,hc,hd,hG,hbw⟩:=hrel
  by_cases h0 : 0 < d
  ·have hl:=Nat.mod_lt c h0
   have hG2 : Hid (Nat.gcd d (c % d) = G):=by rw [Hid,← hG.out,Nat.gcd_comm c d,Nat.gcd_rec d c,Nat.gcd_comm]
   have hm : (c : Int).tmod (d : Int) = ((c % d : Nat) : Int):=by rw [Int.tmod_eq_emod_of_nonneg (by omega)]; omega
   obtain ⟨m,hm2⟩ : ∃ m,c % d = m:=⟨_,rfl⟩
   rw [hm2] at hl hG2 hm
   have hw1 : IntKind.i64.wrap (m : Int) = m:=IntWalk.i64_in _ (by omega)
   have hw2 : wrap64 (m : Int) = m:=IntWalk.wrap64_in _ (by omega)
   have hne : ((d : Int) != 0) = true:=by simp; omega
   have hz : ((d : Int) == 0) = false:=by simp; omega
   clear hG H0 hm2
   go_wp2_with fail
   go_quiet (fail)
   go_wp2_with fail
   refine ⟨⟨d,m,rfl,rfl,hd,by omega,hG2,below_drewN hbw _⟩,?_⟩
   simp [intOf]
   omega
  ·have hd0 : d = 0:=by omega
   subst hd0
   have hc0 : Hid (c = G):=by rw [Hid,← hG.out]; simp
   clear hG H0
   go_wp2_with fail
   go_ret
   exact ⟨by rw [hc0.out]; rfl,hbw⟩
theorem alone109_any (a : Int) (p : Nat) (w : World) (hp : 1 ≤ p) (hp2 : p ≤ 1048576) :
 Calls Tryz.prog 109 #[.agg #[.int .i64 a,.int .i64 (p : Nat)]] w fun e w' => e = .returned (.bool (Nat.gcd a.natAbs p == 1)) ∧ Below w.heap.size w w':=by
 obtain ⟨WB,hWWB⟩ : ∃ WB,WB = w.alloc (.cells #[.int .i64 a,.int .i64 (p : Nat)] 50):=⟨_,rfl⟩
 have hbWB : Below w.heap.size w WB:=by rw [hWWB]; exact z0c _ _
 have hx0 : WB.heap[w.heap.size]? = some (.cells #[.int .i64 a,.int .i64 (p : Nat)] 50 (0,0)):=by rw [hWWB]; exact z03 rfl
 have HX : Hid (∀ W,Below WB.heap.size WB W → W.heap[w.heap.size]? = some (.cells #[.int .i64 a,.int .i64 (p : Nat)] 50 (0,0))):=fun W hW => (hW.block _ (Array.getElem?_eq_some_iff.1 hx0).1).trans hx0
 have HF : Hid (∀ W,Below WB.heap.size WB W → W.cell? ⟨w.heap.size,0,none⟩ = some (.int .i64 a) ∧ W.cell? ⟨w.heap.size,1,none⟩ = some (.int .i64 (p : Nat)) ∧ w.heap.size < W.heap.size):=by
  intro W hW
  have k0:=HX.out W hW
  exact ⟨Jc k0 0,Jc k0 1,(Array.getElem?_eq_some_iff.1 k0).1⟩
 have HBB:=Jh hbWB
 have HWB:=Jh hWWB.symm
 clear hWWB hbWB hx0
 have h0:=Int.emod_nonneg a (show (p : Int) ≠ 0 by omega)
 have h1:=Int.emod_lt_of_pos a (show (0 : Int) < p by omega)
 obtain ⟨r,hr⟩ : ∃ r : Nat,a % p = r:=⟨(a % p).toNat,by omega⟩
 have hgp:=gcd_part a p
 rw [hr,Int.natAbs_natCast,Int.natAbs_natCast] at hgp
 obtain ⟨G,hG⟩ : ∃ G,Nat.gcd r p = G:=⟨_,rfl⟩
 have H1:=fun W => Jh ((z1t a p W (by omega) (by omega)).mono fun e w' h => (⟨h.1,h.2 ▸ Below.refl _ _⟩ : _ ∧ Below W.heap.size W w'))
 have H2:=fun W => Jh (common180_any r p W (by omega) (by omega))
 rw [hr] at H1
 rw [hG] at H2 hgp
 have HP : Hid ((Nat.gcd a.natAbs p == 1) = ((G : Int) == 1)):=by
  rw [Hid,← hgp,Bool.eq_iff_iff]; simp; omega
 clear h0 h1 hr hgp hG hp hp2
 go_enter Tryz.func109,Tryz.ntmps109
 go_upto_region 1 with fail
 rw [HWB.out]
 refine wrd (by kernel_rfl) HF.out ((Below.refl WB.heap.size WB).drew) (fun hHeld => ?_)
 refine wpAnyH_take (i:=0) (v:=?_) rfl (by kernel_rfl) (by kernel_rfl) (by kernel_rfl) (fun _ _ _ h => h) (Or.inl ⟨by kernel_rfl,?_⟩) (by assumption) ?_
 rotate_left
 ·(intro w hSw; (try dsimp only at hSw); go_simp)
  try with_reducible rfl
 try simp only [Act.put,J1,J2,J3,J4,J5]
 refine wpAnyH_take (i:=1) (v:=?_) rfl (by kernel_rfl) (by kernel_rfl) (by kernel_rfl) (fun _ _ _ h => h) (Or.inl ⟨by kernel_rfl,?_⟩) (by assumption) ?_
 rotate_left
 ·(intro w hSw; (try dsimp only at hSw); go_simp)
  try with_reducible rfl
 try simp only [Act.put,J1,J2,J3,J4,J5,J6]
 refine wpAnyH_take (i:=2) (v:=?_) rfl (by kernel_rfl) (by kernel_rfl) (by kernel_rfl) (fun _ _ _ h => h) (Or.inl ⟨by kernel_rfl,?_⟩) (by assumption) ?_
 rotate_left
 ·(intro w hSw; (try dsimp only at hSw); go_simp)
  try with_reducible rfl
 try simp only [Act.put,J1,J2,J3,J4,J5,J6]
 refine wpAnyH_take (i:=3) (v:=?_) rfl (by kernel_rfl) (by kernel_rfl) (by kernel_rfl) (fun _ _ _ h => h) (Or.inl ⟨by kernel_rfl,?_⟩) (by assumption) ?_
 rotate_left
 ·(intro w hSw; (try dsimp only at hSw); go_simp)
  try with_reducible rfl
 try simp only [Act.put,J1,J2,J3,J4,J5,J6]
 refine wpAnyH_take (i:=5) (v:=?_) rfl (by kernel_rfl) (by kernel_rfl) (by kernel_rfl) (fun _ _ _ h => h) (Or.inl ⟨by kernel_rfl,?_⟩) (by assumption) ?_
 rotate_left
 ·(intro w hSw; (try dsimp only at hSw); go_simp)
  try with_reducible rfl
 try simp only [Act.put,J1,J2,J3,J4,J5,J6]
 refine wpAnyH_take (i:=6) (v:=?_) rfl (by kernel_rfl) (by kernel_rfl) (by kernel_rfl) (fun _ _ _ h => h) (Or.inl ⟨by kernel_rfl,?_⟩) (by assumption) ?_
 rotate_left
 ·(intro w hSw; (try dsimp only at hSw); go_simp)
  try with_reducible rfl
 try simp only [Act.put,J1,J2,J3,J4,J5,J6]
 refine Jr (rs:=[4]) (by kernel_rfl) (by simp) ?_
 refine Jd rfl (fun K hK => ?_) Je
 go_simp
 go_at_call 111
 refine (H1 _).out.mono ?_
 rintro e wc ⟨rfl,hbc⟩
 have HBc : Hid (Below WB.heap.size WB wc):=belS ((Below.refl WB.heap.size WB).drew) hbc
 clear hbc
 try dsimp only
 refine hK.out _ _ (HF.out _ HBc.out) (fun hHeld => ?_)
 clear hK K
 try simp only [Act.put,J1,J2,J3,J4,J5,J6]
 refine Jr (rs:=[7]) (by kernel_rfl) (by simp) ?_
 refine Jd rfl (fun K hK => ?_) Je
 go_simp
 go_at_call 180
 refine (H2 _).out.mono ?_
 rintro e wd ⟨rfl,hbd⟩
 have HBd : Hid (Below WB.heap.size WB wd):=belS (HBc.out) hbd
 clear hbd
 try dsimp only
 refine hK.out _ _ (HF.out _ HBd.out) (fun hHeld => ?_)
 clear hK K
 try simp only [Act.put,J1,J2,J3,J4,J5,J6]
 refine wpAnyH_take (i:=8) (v:=?_) rfl (by kernel_rfl) (by kernel_rfl) (by kernel_rfl) (fun _ _ _ h => h) (Or.inl ⟨by kernel_rfl,?_⟩) (by assumption) ?_
 rotate_left
 ·(intro w hSw; (try dsimp only at hSw); go_simp)
  try with_reducible rfl
 try simp only [Act.put,J1,J2,J3,J4,J5,J6]
 refine wpAnyH_take (i:=9) (v:=?_) rfl (by kernel_rfl) (by kernel_rfl) (by kernel_rfl) (fun _ _ _ h => h) (Or.inl ⟨by kernel_rfl,?_⟩) (by assumption) ?_
 rotate_left
 ·(intro w hSw; (try dsimp only at hSw); go_simp)
  try with_reducible rfl
 try simp only [Act.put,J1,J2,J3,J4,J5,J6]
 refine wpAnyH_done (by kernel_rfl) ?_ _
 clear hHeld
 go_wp2_with fail
 all_goals go_ret
 all_goals exact ⟨by rw [HP.out]; rfl,HBB.out.trans (HBd.out.mono HBB.out.size)⟩
theorem mayQ_alone (a : Int) (p : Nat) (h1 : 1 ≤ p) (h2 : p ≤ 1048576) : mayQ a p = (z1n a p && (Nat.gcd a.natAbs p == 1)):=by
 rw [z42,decide_eq_true (by omega : 1 ≤ (p : Int)),decide_eq_true (by omega : (p : Int) ≤ 1048576),Int.natAbs_natCast]; rfl
theorem z6k (a p : Int) (w : World) (ha : in64 a) :
 Calls Tryz.prog 56 #[.agg #[.int .i64 a,.int .i64 p]] w fun e w' => e = .returned (.bool (mayQ a p)) ∧ Below w.heap.size w w':=by
 obtain ⟨WB,hWWB⟩ : ∃ WB,WB = w.alloc (.cells #[.int .i64 a,.int .i64 p] 50):=⟨_,rfl⟩
 have hbWB : Below w.heap.size w WB:=by rw [hWWB]; exact z0c _ _
 have hx0 : WB.heap[w.heap.size]? = some (.cells #[.int .i64 a,.int .i64 p] 50 (0,0)):=by rw [hWWB]; exact z03 rfl
 have HX : Hid (∀ W,Below WB.heap.size WB W → W.heap[w.heap.size]? = some (.cells #[.int .i64 a,.int .i64 p] 50 (0,0))):=fun W hW => (hW.block _ (Array.getElem?_eq_some_iff.1 hx0).1).trans hx0
 have HF : Hid (∀ W,Below WB.heap.size WB W → W.cell? ⟨w.heap.size,0,none⟩ = some (.int .i64 a) ∧ W.cell? ⟨w.heap.size,1,none⟩ = some (.int .i64 p) ∧ w.heap.size < W.heap.size):=by
  intro W hW
  have k0:=HX.out W hW
  exact ⟨Jc k0 0,Jc k0 1,(Array.getElem?_eq_some_iff.1 k0).1⟩
 have HBB:=Jh hbWB
 have HWB:=Jh hWWB.symm
 clear hWWB hbWB hx0
 obtain ⟨xf0,xf1,xf2⟩:=HF.out WB (Below.refl _ _)
 by_cases c1 : p < 1
 ·have d1 : decide (p < 1) = true:=by simpa using c1
  have HE : Hid (mayQ a p = false):=by rw [Hid,z42,decide_eq_false (by omega)]; rfl
  clear c1 ha
  go_enter Tryz.func56,Tryz.ntmps56
  go_upto_region 1 with fail
  rw [HWB.out]
  clear HWB
  go_wp2_with fail
  all_goals go_ret
  all_goals exact ⟨by rw [HE.out]; rfl,HBB.out⟩
 have d1 : decide (p < 1) = false:=by simpa using c1
 by_cases c2 : 1048576 < p
 ·have d2 : decide (1048576 < p) = true:=by simpa using c2
  have HE : Hid (mayQ a p = false):=by rw [Hid,z42,decide_eq_false (show ¬ p ≤ 1048576 by omega)]; simp
  clear c1 c2 ha
  go_enter Tryz.func56,Tryz.ntmps56
  go_upto_region 1 with fail
  rw [HWB.out]
  clear HWB
  go_wp2_with fail
  all_goals go_ret
  all_goals exact ⟨by rw [HE.out]; rfl,HBB.out⟩
 have d2 : decide (1048576 < p) = false:=by simpa using c2
 obtain ⟨k,rfl⟩ : ∃ k : Nat,p = k:=⟨p.toNat,by omega⟩
 have hk1 : 1 ≤ k:=by omega
 have hk2 : k ≤ 1048576:=by omega
 have HA:=fun W => Jh (alone109_any a k W hk1 hk2)
 have HM:=Jh (mayQ_alone a k hk1 hk2)
 have HL:=fun W => Jh ((z2t a k W (by omega) (by omega) ha.1 ha.2).mono fun e w' h => (⟨h.1,h.2 ▸ Below.refl _ _⟩ : _ ∧ Below W.heap.size W w'))
 have HR:=fun W => Jh ((z1t a k W (by omega) (by omega)).mono fun e w' h => (⟨h.1,h.2 ▸ Below.refl _ _⟩ : _ ∧ Below W.heap.size W w'))
 obtain ⟨g,hg⟩ : ∃ g,(Nat.gcd a.natAbs k == 1) = g:=⟨_,rfl⟩
 rw [hg] at HA HM
 clear c1 c2 hk1 hk2 ha hg
 cases g with
 | false =>
  have HE : Hid (mayQ a k = false):=by rw [Hid,HM.out]; simp
  go_enter Tryz.func56,Tryz.ntmps56
  go_upto_region 1 with fail
  rw [HWB.out]
  clear HWB
  go_wp2_with fail
  refine (HA _).out.mono ?_
  rintro e w1 ⟨rfl,hb1⟩
  have HB1:=Jh hb1
  clear hb1
  clear xf0 xf1 xf2
  go_wp2_with fail
  all_goals go_ret
  all_goals exact ⟨by rw [HE.out]; rfl,HBB.out.trans (HB1.out.mono HBB.out.size)⟩
 | true =>
  have HE : Hid (mayQ a k = z1n a k):=by rw [Hid,HM.out]; simp
  obtain ⟨q,hq⟩ : ∃ q,a / (k : Int) = q:=⟨_,rfl⟩
  obtain ⟨r,hr⟩ : ∃ r,a % (k : Int) = r:=⟨_,rfl⟩
  rw [hq] at HL
  rw [hr] at HR
  have HW : Hid (z1n a k = (decide (-2305843009213693952 ≤ q) && (decide (q < 2305843009213693952) || (q == 2305843009213693952 && r == 0)))):=by rw [Hid,z1n,hq,hr]
  clear hq hr
  go_enter Tryz.func56,Tryz.ntmps56
  go_upto_region 1 with fail
  rw [HWB.out]
  clear HWB
  go_wp2_with fail
  refine (HA _).out.mono ?_
  rintro e w1 ⟨rfl,hb1⟩
  have HB1:=Jh hb1
  clear hb1
  clear xf0 xf1 xf2
  obtain ⟨xf0,xf1,xf2⟩:=HF.out w1 (HB1.out)
  go_wp2_with fail
  refine (HL _).out.mono ?_
  rintro e w2 ⟨rfl,hb2⟩
  have HB2 : Hid (Below WB.heap.size WB w2):=belS HB1.out hb2
  clear hb2
  clear xf0 xf1 xf2
  obtain ⟨xf0,xf1,xf2⟩:=HF.out w2 (HB2.out)
  by_cases e1 : -2305843009213693952 ≤ q
  rotate_left
  ·have f1 : decide (-2305843009213693952 ≤ q) = false:=by simpa using e1
   have HV : Hid (z1n a k = false):=by rw [Hid,HW.out,f1]; rfl
   clear e1
   go_wp2_with fail
   all_goals go_ret
   all_goals exact ⟨by rw [HE.out,HV.out]; rfl,HBB.out.trans (HB2.out.mono HBB.out.size)⟩
  have f1 : decide (-2305843009213693952 ≤ q) = true:=by simpa using e1
  by_cases e2 : q < 2305843009213693952
  ·have f2 : decide (q < 2305843009213693952) = true:=by simpa using e2
   have HV : Hid (z1n a k = true):=by rw [Hid,HW.out,f1,f2]; rfl
   clear e1 e2
   go_wp2_with fail
   all_goals go_ret
   all_goals exact ⟨by rw [HE.out,HV.out]; rfl,HBB.out.trans (HB2.out.mono HBB.out.size)⟩
  have f2 : decide (q < 2305843009213693952) = false:=by simpa using e2
  by_cases e3 : q = 2305843009213693952
  rotate_left
  ·have f3 : (q == 2305843009213693952) = false:=by simpa using e3
   have HV : Hid (z1n a k = false):=by rw [Hid,HW.out,f1,f2,f3]; rfl
   clear e1 e2 e3
   go_wp2_with fail
   all_goals go_ret
   all_goals exact ⟨by rw [HE.out,HV.out]; rfl,HBB.out.trans (HB2.out.mono HBB.out.size)⟩
  have f3 : (q == 2305843009213693952) = true:=by simpa using e3
  have HV : Hid (z1n a k = (r == 0)):=by rw [Hid,HW.out,f1,f2,f3]; rfl
  clear e1 e2 e3
  go_wp2_with fail
  refine (HR _).out.mono ?_
  rintro e w3 ⟨rfl,hb3⟩
  have HB3 : Hid (Below WB.heap.size WB w3):=belS HB2.out hb3
  clear hb3
  clear xf0 xf1 xf2
  go_wp2_with fail
  all_goals go_ret
  all_goals exact ⟨by rw [HE.out,HV.out]; rfl,HBB.out.trans (HB3.out.mono HBB.out.size)⟩
end Go.Proofs.YtockinpjfhhkoaaGreatDoor
