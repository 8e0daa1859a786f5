/- Fractions walked: floor, size, gcd, within, Check, checked. -/
import Derived.Deep.Cut
import Derived.Deep.RegionHeld3
import Derived.LoopTactic
import Derived.IntWalk
import Derived.Test.YtockinpjfhhkoaaGreatDoorZ06
import Derived.Test.YtockinpjfhhkoaaGreatDoorZ05
import Derived.OwnWalk
set_option maxRecDepth 100000
set_option maxHeartbeats 16000000
open List renaming setIfInBounds_toArray → J1, set_cons_zero → J2, set_cons_succ → J3, getElem_toArray → J4, getElem_cons_zero → J5, getElem_cons_succ → J6
open Go.Lib renaming cell_of_heap → Jc, hid → Jh
open Go.AllReadyH renaming cons → Jd, nil → Je
open Go renaming wpAnyH_ready → Jr
namespace Go.Proofs.YtockinpjfhhkoaaGreatDoor
open Go.RowKit
theorem tdiv_floor {n p : Int} (hp : 0 < p) : (0 ≤ n.tmod p → n.tdiv p = n / p ∧ n.tmod p = n % p) ∧ (n.tmod p < 0 → n.tdiv p - 1 = n / p ∧ n.tmod p + p = n % p):=by
 have e:=Int.mul_tdiv_add_tmod n p
 have e2:=Int.mul_ediv_add_emod n p
 have r0:=Int.emod_nonneg n (by omega : p ≠ 0)
 have r1:=Int.emod_lt_of_pos n hp
 have t1 : n.tmod p < p:=Int.tmod_lt_of_pos n hp
 have t2 : -p < n.tmod p:=by
  have:=Int.lt_tmod_of_pos n hp
  omega
 generalize n.tdiv p = q at *
 generalize n.tmod p = r at *
 generalize n / p = a at *
 generalize n % p = b at *
 constructor
 ·intro h
  have h1 : p * (q - a) = b - r:=by rw [Int.mul_sub]; omega
  have h2 : q - a = 0:=by
   rcases Int.lt_trichotomy (q - a) 0 with h | h | h
   ·have : p * (q - a) ≤ p * (-1):=Int.mul_le_mul_of_nonneg_left (by omega) (by omega)
    omega
   ·exact h
   ·have : p * 1 ≤ p * (q - a):=Int.mul_le_mul_of_nonneg_left (by omega) (by omega)
    omega
  rw [h2] at h1
  omega
 ·intro h
  have h1 : p * (q - a) = b - r:=by rw [Int.mul_sub]; omega
  have h2 : q - a = 1:=by
   rcases Int.lt_trichotomy (q - a) 1 with h3 | h3 | h3
   ·have : p * (q - a) ≤ p * 0:=Int.mul_le_mul_of_nonneg_left (by omega) (by omega)
    omega
   ·exact h3
   ·have : p * 2 ≤ p * (q - a):=Int.mul_le_mul_of_nonneg_left (by omega) (by omega)
    omega
  rw [h2] at h1
  omega
theorem div_in64 {n p : Int} (hp : 1 ≤ p) (hn : -9223372036854775808 ≤ n) (hn2 : n ≤ 9223372036854775807) : -9223372036854775808 ≤ n / p ∧ n / p ≤ 9223372036854775807 ∧ 0 ≤ n % p ∧ n % p < p:=by
 have e2:=Int.mul_ediv_add_emod n p
 have r0:=Int.emod_nonneg n (by omega : p ≠ 0)
 have r1:=Int.emod_lt_of_pos n (by omega : 0 < p)
 generalize n / p = a at *
 generalize n % p = b at *
 refine ⟨?_,?_,r0,r1⟩
 ·rcases Int.lt_or_le a (-9223372036854775808) with h | h
  ·have h1 : p * a ≤ p * (-9223372036854775809):=Int.mul_le_mul_of_nonneg_left (by omega) (by omega)
   have h2 : p * (-9223372036854775809) = -(p * 9223372036854775809):=by rw [Int.mul_neg]
   omega
  ·exact h
 ·rcases Int.lt_or_le 9223372036854775807 a with h | h
  ·have h1 : p * 9223372036854775808 ≤ p * a:=Int.mul_le_mul_of_nonneg_left (by omega) (by omega)
   omega
  ·exact h
theorem z5b (n p : Int) (w : World) (hp : 1 ≤ p) (hp2 : p ≤ 1048576) (hn : -9223372036854775808 ≤ n) (hn2 : n ≤ 9223372036854775807) :
 Calls Tryz.prog 83 #[.int .i64 n,.int .i64 p] w fun e w' => e = .returned (.tuple #[.int .i64 (n / p),.int .i64 (n % p)]) ∧ Below w.heap.size w w':=by
 obtain ⟨T1,T2⟩:=tdiv_floor (n:=n) (p:=p) (by omega)
 obtain ⟨d1,d2,d3,d4⟩:=div_in64 hp hn hn2
 have hneg : n.tmod p < 0 → n / p < 0:=fun h => by
  have h1 : n < 0:=by
   rcases Int.lt_or_le n 0 with h2 | h2
   ·exact h2
   ·have:=Int.tmod_nonneg p h2; omega
  exact Int.ediv_neg_of_neg_of_pos h1 (by omega)
 obtain ⟨q,hq⟩ : ∃ q,n.tdiv p = q:=⟨_,rfl⟩
 obtain ⟨r,hr⟩ : ∃ r,n.tmod p = r:=⟨_,rfl⟩
 rw [hq,hr] at T1 T2
 rw [hr] at hneg
 by_cases h0 : r < 0
 ·obtain ⟨e1,e2⟩:=T2 h0
  have hn1:=hneg h0
  rw [← e1] at d1 d2 hn1
  rw [← e2] at d3 d4
  rw [← e1,← e2]
  have hw1 : wrap64 q = q:=IntWalk.wrap64_in q ⟨by omega,by omega⟩
  have hw2 : wrap64 (q - 1) = q - 1:=IntWalk.wrap64_in _ ⟨by omega,by omega⟩
  clear T1 T2 e1 e2 hneg hn1
  go_enter Tryz.func83,Tryz.ntmps83
  go_wp2_with fail
  go_quiet (fail)
  go_wp2_with fail
  all_goals go_ret2
  all_goals exact ⟨rfl,below_drewN (Below.refl _ _) _⟩
 ·obtain ⟨e1,e2⟩:=T1 (by omega)
  rw [← e1] at d1 d2
  rw [← e1,← e2]
  have hw1 : wrap64 q = q:=IntWalk.wrap64_in q ⟨by omega,by omega⟩
  clear T1 T2 e1 e2 d1 d2 d3 d4 hneg
  go_enter Tryz.func83,Tryz.ntmps83
  go_wp2_with fail
  go_quiet (fail)
  go_wp2_with fail
  all_goals go_ret2
  all_goals exact ⟨by simp [hw1],below_drewN (Below.refl _ _) _⟩
theorem ret_u {a b : Int} (h : a = b) : Ending.returned (.int .u64 a) = .returned (.int .u64 b):=by rw [h]
theorem z1y (n : Int) (w : World) (hn : -9223372036854775808 ≤ n) (hn2 : n ≤ 9223372036854775807) :
 Calls Tryz.prog 101 #[.int .i64 n] w fun e w' => e = .returned (.int .u64 (n.natAbs : Nat)) ∧ w' = w:=by
 go_enter Tryz.func101,Tryz.ntmps101
 go_wp2_with fail
 all_goals go_ret
 all_goals exact ⟨ret_u (by (try dsimp only [Array.getD]); first | (rw [IntKind.wrap_u64,IntKind.wrap_u64]; omega) | (rw [IntKind.wrap_u64]; omega) | omega),rfl⟩
theorem z3r (a b : Nat) (w : World) (ha : a < 18446744073709551616) (hb : b < 18446744073709551616) :
 Calls Tryz.prog 100 #[.int .u64 (a : Nat),.int .u64 (b : Nat)] w fun e w' => e = .returned (.int .u64 (Nat.gcd a b : Nat)) ∧ Below w.heap.size w w':=by
 obtain ⟨G,hG0⟩ : ∃ G,Nat.gcd a b = G:=⟨_,rfl⟩
 have H0:=Jh hG0
 rw [hG0]
 clear hG0
 go_enter Tryz.func100,Tryz.ntmps100
 go_wp2_with fail
 go_loopw [0,1] (fun x y wr => ∃ c d : Nat,x = .int .u64 c ∧ y = .int .u64 d ∧ c < 18446744073709551616 ∧ d < 18446744073709551616 ∧ Hid (Nat.gcd c d = G) ∧ Below w.heap.size w wr) (fun _ y _ => (intOf y).toNat)
 case atStart => exact ⟨a,b,rfl,rfl,ha,hb,H0,Below.refl _ _⟩
 case round =>
  obtain ⟨c,d,rfl,rfl,hc,hd,hG,hbw⟩:=hrel
  by_cases h0 : 0 < d
  ·have hm : (c : Int) % (d : Int) = ((c % d : Nat) : Int):=by omega
   have hl:=Nat.mod_lt c h0
   have hG2 : Hid (Nat.gcd d (c % d) = G):=by rw [Hid,← hG.out,Nat.gcd_comm c d,Nat.gcd_rec d c,Nat.gcd_comm]
   have hi0 : 0 < (d : Int):=by omega
   clear hG H0
   go_wp2_with fail
   go_quiet (fail)
   go_wp2_with fail
   refine ⟨⟨d,c % d,rfl,by rw [hm],hd,by omega,hG2,below_drewN hbw _⟩,?_⟩
   simp [intOf]
   omega
  ·have hd0 : d = 0:=by omega
   subst hd0
   have hc0 : Hid (c = G):=by rw [Hid,← hG.out]; simp
   clear hG H0
   go_wp2_with fail
   go_ret
   exact ⟨ret_u (by rw [hc0.out]),hbw⟩
open Go.RowKit
def in64 (x : Int) : Prop:=-9223372036854775808 ≤ x ∧ x ≤ 9223372036854775807
def z8q (a p : Int) : Bool:=decide (-2305843009213693952 ≤ a / p) && (decide (a / p < 2305843009213693952) || (a / p == 2305843009213693952 && a % p == 0))
theorem mayQ_eq (a p : Int) : mayQ a p = (decide (1 ≤ p) && decide (p ≤ 1048576) && z8q a p && (Nat.gcd a.natAbs p.natAbs == 1)):=by
 unfold mayQ z8q
 simp only [Bool.and_assoc]
theorem within99_any (a p : Int) (w : World) (hp : 1 ≤ p) (hp2 : p ≤ 1048576) (ha : in64 a) :
 Calls Tryz.prog 99 #[.agg #[.int .i64 a,.int .i64 p]] w fun e w' => e = .returned (.bool (z8q a p)) ∧ Below w.heap.size w w':=by
 have HB:=Jh (z08 w (.cells #[.int .i64 a,.int .i64 p] 50))
 have HF:=Jh (z5b a p (w.alloc (.cells #[.int .i64 a,.int .i64 p] 50)) hp hp2 ha.1 ha.2)
 obtain ⟨q,hq⟩ : ∃ q,a / p = q:=⟨_,rfl⟩
 obtain ⟨r,hr⟩ : ∃ r,a % p = r:=⟨_,rfl⟩
 have HW : Hid (z8q a p = (decide (-2305843009213693952 ≤ q) && (decide (q < 2305843009213693952) || (q == 2305843009213693952 && r == 0)))):=by rw [Hid,z8q,hq,hr]
 rw [hq,hr] at HF
 rw [HW.out]
 clear hq hr ha
 go_enter Tryz.func99,Tryz.ntmps99
 go_wp2_with fail
 refine HF.out.mono ?_
 rintro e w1 ⟨rfl,hb1⟩
 have HB1:=Jh (HB.out.trans (hb1.mono HB.out.size))
 clear hb1
 go_wp2_with fail
 all_goals go_ret
 all_goals exact ⟨z02 (by simp_all <;> omega),HB1.out⟩
def ratE (a p : Int) : Int:=if mayQ a p = true then 0 else 8
theorem ratE_ok {a p : Int} (h : mayQ a p = true) : ratE a p = 0:=by unfold ratE; rw [if_pos h]
theorem ratE_no {a p : Int} (h : mayQ a p = false) : ratE a p = 8:=by unfold ratE; rw [h]; rfl
theorem nan223_any (a : Int) (w : World) : Calls Tryz.prog 223 #[.int .i64 a] w fun e w' => e = .returned (.bool false) ∧ w' = w:=by
 go_enter Tryz.func223,Tryz.ntmps223
 go_wp2_with fail
 all_goals go_ret
 all_goals exact ⟨z02 (by simp),rfl⟩
def cmpI (a b : Int) : Int:=if a < b then -1 else if b < a then 1 else 0
theorem cmp190_any (a b : Int) (w : World) : Calls Tryz.prog 190 #[.int .i64 a,.int .i64 b] w fun e w' => e = .returned (.int .i64 (cmpI a b)) ∧ w' = w:=by
 unfold cmpI
 go_enter Tryz.func190,Tryz.ntmps190
 go_wp2_with fail
 refine (nan223_any _ _).mono ?_
 rintro e w1 ⟨rfl,rfl⟩
 go_wp2_with fail
 refine (nan223_any _ _).mono ?_
 rintro e w1 ⟨rfl,rfl⟩
 go_wp2_with fail
 all_goals go_ret
 all_goals exact ⟨z2l (by simp_all <;> omega),rfl⟩
open Go.RowKit
theorem z1p (a p : Int) (w : World) (ha : in64 a) : Calls Tryz.prog 52 #[.agg #[.int .i64 a,.int .i64 p]] w fun e w' => e = .returned (.int .i64 (ratE a p)) ∧ Below w.heap.size w w':=by
 obtain ⟨W1,hW1⟩ : ∃ W1,W1 = w.alloc (.cells #[.int .i64 a,.int .i64 p] 50):=⟨_,rfl⟩
 have hb1 : Below w.heap.size w W1:=by rw [hW1]; exact z08 _ _
 have hz1 : W1.heap.size = w.heap.size + 1:=by rw [hW1]; simp
 have hx1 : W1.heap[w.heap.size]? = some (.cells #[.int .i64 a,.int .i64 p] 50 (0,0)):=by rw [hW1]; exact z01 rfl
 have HX : Hid (∀ W,Below W1.heap.size W1 W → W.cell? ⟨w.heap.size,0,none⟩ = some (.int .i64 a) ∧ W.cell? ⟨w.heap.size,1,none⟩ = some (.int .i64 p) ∧ w.heap.size < W.heap.size):=by
  intro W hW
  have h1 : W.heap[w.heap.size]? = _:=(hW.block _ (by omega)).trans hx1
  exact ⟨Jc h1 0,Jc h1 1,(Array.getElem?_eq_some_iff.1 h1).1⟩
 have HB1:=Jh hb1
 have HW1:=Jh hW1.symm
 have HA:=Jh ha
 have hself : Below W1.heap.size W1 W1.drew:=(Below.refl _ _).drew
 have HS0 : Hid (W1.drew.cell? ⟨w.heap.size,0,none⟩ = some (.int .i64 a) ∧ W1.drew.cell? ⟨w.heap.size,1,none⟩ = some (.int .i64 p) ∧ w.heap.size < W1.drew.heap.size):=HX.out _ hself
 obtain ⟨x0,x1,xl⟩:=HX.out W1 (Below.refl _ _)
 clear hb1 hz1 hx1 hW1 ha
 by_cases hp : p < 1
 ·have d1 : decide (p < 1) = true:=by simpa using hp
  have HE : Hid (ratE a p = 8):=ratE_no (by rw [mayQ_eq,decide_eq_false (by omega)]; rfl)
  rw [HE.out]
  clear hp
  go_enter Tryz.func52,Tryz.ntmps52
  go_upto_region 1 with fail
  rw [HW1.out]
  go_quiet (fail)
  go_wp2_with fail
  all_goals go_ret
  all_goals exact ⟨rfl,below_drewN HB1.out _⟩
 ·have d1 : decide (p < 1) = false:=by simpa using hp
  by_cases hp2 : 1048576 < p
  ·have d2 : decide (1048576 < p) = true:=by simpa using hp2
   have HE : Hid (ratE a p = 8):=ratE_no (by rw [mayQ_eq,decide_eq_false (show ¬ p ≤ 1048576 by omega)]; simp)
   rw [HE.out]
   clear hp hp2
   go_enter Tryz.func52,Tryz.ntmps52
   go_upto_region 1 with fail
   rw [HW1.out]
   go_quiet (fail)
   go_wp2_with fail
   all_goals go_ret
   all_goals exact ⟨rfl,below_drewN HB1.out _⟩
  ·have d2 : decide (1048576 < p) = false:=by simpa using hp2
   have HWI:=Jh (within99_any a p W1.drew (by omega) (by omega) HA.out)
   have HP : Hid (1 ≤ p ∧ p ≤ 1048576):=⟨by omega,by omega⟩
   cases hwi : z8q a p with
   | false =>
    have HE : Hid (ratE a p = 8):=ratE_no (by rw [mayQ_eq,hwi]; simp)
    rw [HE.out]
    rw [hwi] at HWI
    clear hwi hp hp2
    go_enter Tryz.func52,Tryz.ntmps52
    go_upto_region 1 with fail
    rw [HW1.out]
    refine wp_region_held_drew (S:=fun W => W.cell? ⟨w.heap.size,0,none⟩ = some (.int .i64 a) ∧ W.cell? ⟨w.heap.size,1,none⟩ = some (.int .i64 p) ∧ w.heap.size < W.heap.size) (by kernel_rfl) HS0.out (fun hHeld => ?_)
    refine wpAnyH_take (i:=0) (v:=?_) rfl (by kernel_rfl) (by kernel_rfl) (by kernel_rfl) (fun _ _ _ h => h) (Or.inl ⟨by kernel_rfl,?_⟩) (by assumption) ?_
    rotate_left
    ·(intro w hSw; (try dsimp only at hSw); go_simp)
     try with_reducible rfl
    try simp only [Act.put,J1,J2,J3,J4,J5]
    refine wpAnyH_take (i:=1) (v:=?_) rfl (by kernel_rfl) (by kernel_rfl) (by kernel_rfl) (fun _ _ _ h => h) (Or.inl ⟨by kernel_rfl,?_⟩) (by assumption) ?_
    rotate_left
    ·(intro w hSw; (try dsimp only at hSw); go_simp)
     try with_reducible rfl
    try simp only [Act.put,J1,J2,J3,J4,J5,J6]
    refine wpAnyH_take (i:=2) (v:=?_) rfl (by kernel_rfl) (by kernel_rfl) (by kernel_rfl) (fun _ _ _ h => h) (Or.inl ⟨by kernel_rfl,?_⟩) (by assumption) ?_
    rotate_left
    ·(intro w hSw; (try dsimp only at hSw); go_simp)
     try with_reducible rfl
    try simp only [Act.put,J1,J2,J3,J4,J5,J6]
    refine wpAnyH_take (i:=3) (v:=?_) rfl (by kernel_rfl) (by kernel_rfl) (by kernel_rfl) (fun _ _ _ h => h) (Or.inl ⟨by kernel_rfl,?_⟩) (by assumption) ?_
    rotate_left
    ·(intro w hSw; (try dsimp only at hSw); go_simp)
     try with_reducible rfl
    try simp only [Act.put,J1,J2,J3,J4,J5,J6]
    refine wpAnyH_take (i:=4) (v:=?_) rfl (by kernel_rfl) (by kernel_rfl) (by kernel_rfl) (fun _ _ _ h => h) (Or.inl ⟨by kernel_rfl,?_⟩) (by assumption) ?_
    rotate_left
    ·(intro w hSw; (try dsimp only at hSw); go_simp)
     try with_reducible rfl
    try simp only [Act.put,J1,J2,J3,J4,J5,J6]
    refine wpAnyH_take (i:=5) (v:=?_) rfl (by kernel_rfl) (by kernel_rfl) (by kernel_rfl) (fun _ _ _ h => h) (Or.inl ⟨by kernel_rfl,?_⟩) (by assumption) ?_
    rotate_left
    ·(intro w hSw; (try dsimp only at hSw); go_simp)
     try with_reducible rfl
    try simp only [Act.put,J1,J2,J3,J4,J5,J6]
    refine wpAnyH_take (i:=6) (v:=?_) rfl (by kernel_rfl) (by kernel_rfl) (by kernel_rfl) (fun _ _ _ h => h) (Or.inl ⟨by kernel_rfl,?_⟩) (by assumption) ?_
    rotate_left
    ·(intro w hSw; (try dsimp only at hSw); go_simp)
     try with_reducible rfl
    try simp only [Act.put,J1,J2,J3,J4,J5,J6]
    refine wpAnyH_take (i:=7) (v:=?_) rfl (by kernel_rfl) (by kernel_rfl) (by kernel_rfl) (fun _ _ _ h => h) (Or.inl ⟨by kernel_rfl,?_⟩) (by assumption) ?_
    rotate_left
    ·(intro w hSw; (try dsimp only at hSw); go_simp)
     try with_reducible rfl
    try simp only [Act.put,J1,J2,J3,J4,J5,J6]
    refine wpAnyH_take (i:=8) (v:=?_) rfl (by kernel_rfl) (by kernel_rfl) (by kernel_rfl) (fun _ _ _ h => h) (Or.inl ⟨by kernel_rfl,?_⟩) (by assumption) ?_
    rotate_left
    ·(intro w hSw; (try dsimp only at hSw); go_simp)
     try with_reducible rfl
    try simp only [Act.put,J1,J2,J3,J4,J5,J6]
    refine wpAnyH_take (i:=9) (v:=?_) rfl (by kernel_rfl) (by kernel_rfl) (by kernel_rfl) (fun _ _ _ h => h) (Or.inl ⟨by kernel_rfl,?_⟩) (by assumption) ?_
    rotate_left
    ·(intro w hSw; (try dsimp only at hSw); go_simp)
     try with_reducible rfl
    try simp only [Act.put,J1,J2,J3,J4,J5,J6]
    refine Jr (rs:=[10]) (by kernel_rfl) (by simp) ?_
    refine Jd rfl (fun K hK => ?_) Je
    go_simp
    go_at_call 99
    refine HWI.out.mono ?_
    rintro e wz ⟨rfl,hbz⟩
    have HBY : Hid (Below W1.heap.size W1 wz):=Below.trans (b:=W1.drew) hself hbz
    have HBZ : Hid (Below w.heap.size w wz):=HB1.out.trans (HBY.out.mono HB1.out.size)
    clear hbz
    try dsimp only
    refine hK.out _ _ (HX.out wz HBY.out) (fun hHeld => ?_)
    clear hK K
    try simp only [Act.put,J1,J2,J3,J4,J5,J6]
    refine wpAnyH_take (i:=11) (v:=?_) rfl (by kernel_rfl) (by kernel_rfl) (by kernel_rfl) (fun _ _ _ h => h) (Or.inl ⟨by kernel_rfl,?_⟩) (by assumption) ?_
    rotate_left
    ·(intro w hSw; (try dsimp only at hSw); go_simp)
     try with_reducible rfl
    try simp only [Act.put,J1,J2,J3,J4,J5,J6]
    refine wpAnyH_take (i:=12) (v:=?_) rfl (by kernel_rfl) (by kernel_rfl) (by kernel_rfl) (fun _ _ _ h => h) (Or.inl ⟨by kernel_rfl,?_⟩) (by assumption) ?_
    rotate_left
    ·(intro w hSw; (try dsimp only at hSw); go_simp)
     try with_reducible rfl
    try simp only [Act.put,J1,J2,J3,J4,J5,J6]
    refine wpAnyH_take (i:=13) (v:=?_) rfl (by kernel_rfl) (by kernel_rfl) (by kernel_rfl) (fun _ _ _ h => h) (Or.inl ⟨by kernel_rfl,?_⟩) (by assumption) ?_
    rotate_left
    ·(intro w hSw; (try dsimp only at hSw); go_simp)
     try with_reducible rfl
    try simp only [Act.put,J1,J2,J3,J4,J5,J6]
    refine wpAnyH_take (i:=14) (v:=undef) rfl (by kernel_rfl) (by kernel_rfl) (by kernel_rfl) (fun _ _ _ h => h) (Or.inr ⟨by kernel_rfl,rfl⟩) (by assumption) ?_
    try simp only [Act.put,J1,J2,J3,J4,J5,J6]
    refine wpAnyH_take (i:=15) (v:=undef) rfl (by kernel_rfl) (by kernel_rfl) (by kernel_rfl) (fun _ _ _ h => h) (Or.inr ⟨by kernel_rfl,rfl⟩) (by assumption) ?_
    try simp only [Act.put,J1,J2,J3,J4,J5,J6]
    refine wpAnyH_take (i:=16) (v:=undef) rfl (by kernel_rfl) (by kernel_rfl) (by kernel_rfl) (fun _ _ _ h => h) (Or.inr ⟨by kernel_rfl,rfl⟩) (by assumption) ?_
    try simp only [Act.put,J1,J2,J3,J4,J5,J6]
    refine wpAnyH_take (i:=17) (v:=undef) rfl (by kernel_rfl) (by kernel_rfl) (by kernel_rfl) (fun _ _ _ h => h) (Or.inr ⟨by kernel_rfl,rfl⟩) (by assumption) ?_
    try simp only [Act.put,J1,J2,J3,J4,J5,J6]
    refine wpAnyH_take (i:=18) (v:=undef) rfl (by kernel_rfl) (by kernel_rfl) (by kernel_rfl) (fun _ _ _ h => h) (Or.inr ⟨by kernel_rfl,rfl⟩) (by assumption) ?_
    try simp only [Act.put,J1,J2,J3,J4,J5,J6]
    refine wpAnyH_take (i:=19) (v:=undef) rfl (by kernel_rfl) (by kernel_rfl) (by kernel_rfl) (fun _ _ _ h => h) (Or.inr ⟨by kernel_rfl,rfl⟩) (by assumption) ?_
    try simp only [Act.put,J1,J2,J3,J4,J5,J6]
    refine wpAnyH_take (i:=20) (v:=undef) rfl (by kernel_rfl) (by kernel_rfl) (by kernel_rfl) (fun _ _ _ h => h) (Or.inr ⟨by kernel_rfl,rfl⟩) (by assumption) ?_
    try simp only [Act.put,J1,J2,J3,J4,J5,J6]
    refine wpAnyH_take (i:=21) (v:=undef) rfl (by kernel_rfl) (by kernel_rfl) (by kernel_rfl) (fun _ _ _ h => h) (Or.inr ⟨by kernel_rfl,rfl⟩) (by assumption) ?_
    try simp only [Act.put,J1,J2,J3,J4,J5,J6]
    refine wpAnyH_take (i:=22) (v:=?_) rfl (by kernel_rfl) (by kernel_rfl) (by kernel_rfl) (fun _ _ _ h => h) (Or.inl ⟨by kernel_rfl,?_⟩) (by assumption) ?_
    rotate_left
    ·(intro w hSw; (try dsimp only at hSw); go_simp)
     try with_reducible rfl
    try simp only [Act.put,J1,J2,J3,J4,J5,J6]
    refine wpAnyH_done (by kernel_rfl) ?_ _
    go_wp2_with fail
    all_goals go_ret
    all_goals exact ⟨rfl,HBZ.out⟩
   | true =>
    have hpn : IntKind.u64.wrap p = ((p.natAbs : Nat) : Int):=by rw [IntKind.wrap_u64]; omega
    obtain ⟨G,hG⟩ : ∃ G,Nat.gcd a.natAbs p.natAbs = G:=⟨_,rfl⟩
    have HGC : Hid (∀ W,Calls Tryz.prog 100 #[.int .u64 (a.natAbs : Nat),.int .u64 (p.natAbs : Nat)] W fun e w' => e = .returned (.int .u64 (G : Nat)) ∧ Below W.heap.size W w'):=by
     intro W
     have:=z3r a.natAbs p.natAbs W (by have:=HA.out; unfold in64 at this; omega) (by omega)
     rw [hG] at this
     exact this
    obtain ⟨A,hA⟩ : ∃ A,a.natAbs = A:=⟨_,rfl⟩
    obtain ⟨Q,hQ⟩ : ∃ Q,p.natAbs = Q:=⟨_,rfl⟩
    have HSZ : Hid (∀ W,Calls Tryz.prog 101 #[.int .i64 a] W fun e w' => e = .returned (.int .u64 (A : Nat)) ∧ w' = W):=fun W => by rw [← hA]; exact z1y a W HA.out.1 HA.out.2
    rw [hA,hQ] at HGC
    rw [hQ] at hpn
    have HE : Hid (ratE a p = if G = 1 then 0 else 8):=by
     have h1 : mayQ a p = decide (G = 1):=by
      rw [mayQ_eq,hwi,hG,decide_eq_true HP.out.1,decide_eq_true HP.out.2]
      exact Bool.eq_iff_iff.2 (by simp)
     rw [Hid,ratE,h1]
     by_cases h : G = 1 <;> simp [h]
    rw [HE.out]
    rw [hwi] at HWI
    clear hwi hp hp2 hA hQ hG
    by_cases hg : G = 1
    ·have q1 : ((G : Nat) : Int) = 1:=by rw [hg]; rfl
     have q2 : (((G : Nat) : Int) != 1) = false:=by rw [hg]; rfl
     have HE2 : Hid ((if G = 1 then (0 : Int) else 8) = 0):=if_pos hg
     rw [HE2.out]
     clear hg
     go_enter Tryz.func52,Tryz.ntmps52
     go_upto_region 1 with fail
     rw [HW1.out]
     refine wp_region_held_drew (S:=fun W => W.cell? ⟨w.heap.size,0,none⟩ = some (.int .i64 a) ∧ W.cell? ⟨w.heap.size,1,none⟩ = some (.int .i64 p) ∧ w.heap.size < W.heap.size) (by kernel_rfl) HS0.out (fun hHeld => ?_)
     refine wpAnyH_take (i:=0) (v:=?_) rfl (by kernel_rfl) (by kernel_rfl) (by kernel_rfl) (fun _ _ _ h => h) (Or.inl ⟨by kernel_rfl,?_⟩) (by assumption) ?_
     rotate_left
     ·(intro w hSw; (try dsimp only at hSw); go_simp)
      try with_reducible rfl
     try simp only [Act.put,J1,J2,J3,J4,J5]
     refine wpAnyH_take (i:=1) (v:=?_) rfl (by kernel_rfl) (by kernel_rfl) (by kernel_rfl) (fun _ _ _ h => h) (Or.inl ⟨by kernel_rfl,?_⟩) (by assumption) ?_
     rotate_left
     ·(intro w hSw; (try dsimp only at hSw); go_simp)
      try with_reducible rfl
     try simp only [Act.put,J1,J2,J3,J4,J5,J6]
     refine wpAnyH_take (i:=2) (v:=?_) rfl (by kernel_rfl) (by kernel_rfl) (by kernel_rfl) (fun _ _ _ h => h) (Or.inl ⟨by kernel_rfl,?_⟩) (by assumption) ?_
     rotate_left
     ·(intro w hSw; (try dsimp only at hSw); go_simp)
      try with_reducible rfl
     try simp only [Act.put,J1,J2,J3,J4,J5,J6]
     refine wpAnyH_take (i:=3) (v:=?_) rfl (by kernel_rfl) (by kernel_rfl) (by kernel_rfl) (fun _ _ _ h => h) (Or.inl ⟨by kernel_rfl,?_⟩) (by assumption) ?_
     rotate_left
     ·(intro w hSw; (try dsimp only at hSw); go_simp)
      try with_reducible rfl
     try simp only [Act.put,J1,J2,J3,J4,J5,J6]
     refine wpAnyH_take (i:=4) (v:=?_) rfl (by kernel_rfl) (by kernel_rfl) (by kernel_rfl) (fun _ _ _ h => h) (Or.inl ⟨by kernel_rfl,?_⟩) (by assumption) ?_
     rotate_left
     ·(intro w hSw; (try dsimp only at hSw); go_simp)
      try with_reducible rfl
     try simp only [Act.put,J1,J2,J3,J4,J5,J6]
     refine wpAnyH_take (i:=5) (v:=?_) rfl (by kernel_rfl) (by kernel_rfl) (by kernel_rfl) (fun _ _ _ h => h) (Or.inl ⟨by kernel_rfl,?_⟩) (by assumption) ?_
     rotate_left
     ·(intro w hSw; (try dsimp only at hSw); go_simp)
      try with_reducible rfl
     try simp only [Act.put,J1,J2,J3,J4,J5,J6]
     refine wpAnyH_take (i:=6) (v:=?_) rfl (by kernel_rfl) (by kernel_rfl) (by kernel_rfl) (fun _ _ _ h => h) (Or.inl ⟨by kernel_rfl,?_⟩) (by assumption) ?_
     rotate_left
     ·(intro w hSw; (try dsimp only at hSw); go_simp)
      try with_reducible rfl
     try simp only [Act.put,J1,J2,J3,J4,J5,J6]
     refine wpAnyH_take (i:=7) (v:=?_) rfl (by kernel_rfl) (by kernel_rfl) (by kernel_rfl) (fun _ _ _ h => h) (Or.inl ⟨by kernel_rfl,?_⟩) (by assumption) ?_
     rotate_left
     ·(intro w hSw; (try dsimp only at hSw); go_simp)
      try with_reducible rfl
     try simp only [Act.put,J1,J2,J3,J4,J5,J6]
     refine wpAnyH_take (i:=8) (v:=?_) rfl (by kernel_rfl) (by kernel_rfl) (by kernel_rfl) (fun _ _ _ h => h) (Or.inl ⟨by kernel_rfl,?_⟩) (by assumption) ?_
     rotate_left
     ·(intro w hSw; (try dsimp only at hSw); go_simp)
      try with_reducible rfl
     try simp only [Act.put,J1,J2,J3,J4,J5,J6]
     refine wpAnyH_take (i:=9) (v:=?_) rfl (by kernel_rfl) (by kernel_rfl) (by kernel_rfl) (fun _ _ _ h => h) (Or.inl ⟨by kernel_rfl,?_⟩) (by assumption) ?_
     rotate_left
     ·(intro w hSw; (try dsimp only at hSw); go_simp)
      try with_reducible rfl
     try simp only [Act.put,J1,J2,J3,J4,J5,J6]
     refine Jr (rs:=[10]) (by kernel_rfl) (by simp) ?_
     refine Jd rfl (fun K hK => ?_) Je
     go_simp
     go_at_call 99
     refine HWI.out.mono ?_
     rintro e wz ⟨rfl,hbz⟩
     have HBY : Hid (Below W1.heap.size W1 wz):=Below.trans (b:=W1.drew) hself hbz
     have HBZ : Hid (Below w.heap.size w wz):=HB1.out.trans (HBY.out.mono HB1.out.size)
     clear hbz
     try dsimp only
     refine hK.out _ _ (HX.out wz HBY.out) (fun hHeld => ?_)
     clear hK K
     try simp only [Act.put,J1,J2,J3,J4,J5,J6]
     refine wpAnyH_take (i:=11) (v:=?_) rfl (by kernel_rfl) (by kernel_rfl) (by kernel_rfl) (fun _ _ _ h => h) (Or.inl ⟨by kernel_rfl,?_⟩) (by assumption) ?_
     rotate_left
     ·(intro w hSw; (try dsimp only at hSw); go_simp)
      try with_reducible rfl
     try simp only [Act.put,J1,J2,J3,J4,J5,J6]
     refine wpAnyH_take (i:=12) (v:=?_) rfl (by kernel_rfl) (by kernel_rfl) (by kernel_rfl) (fun _ _ _ h => h) (Or.inl ⟨by kernel_rfl,?_⟩) (by assumption) ?_
     rotate_left
     ·(intro w hSw; (try dsimp only at hSw); go_simp)
      try with_reducible rfl
     try simp only [Act.put,J1,J2,J3,J4,J5,J6]
     refine wpAnyH_take (i:=13) (v:=?_) rfl (by kernel_rfl) (by kernel_rfl) (by kernel_rfl) (fun _ _ _ h => h) (Or.inl ⟨by kernel_rfl,?_⟩) (by assumption) ?_
     rotate_left
     ·(intro w hSw; (try dsimp only at hSw); go_simp)
      try with_reducible rfl
     try simp only [Act.put,J1,J2,J3,J4,J5,J6]
     refine wpAnyH_take (i:=14) (v:=?_) rfl (by kernel_rfl) (by kernel_rfl) (by kernel_rfl) (fun _ _ _ h => h) (Or.inl ⟨by kernel_rfl,?_⟩) (by assumption) ?_
     rotate_left
     ·(intro w hSw; (try dsimp only at hSw); go_simp)
      try with_reducible rfl
     try simp only [Act.put,J1,J2,J3,J4,J5,J6]
     refine wpAnyH_take (i:=15) (v:=?_) rfl (by kernel_rfl) (by kernel_rfl) (by kernel_rfl) (fun _ _ _ h => h) (Or.inl ⟨by kernel_rfl,?_⟩) (by assumption) ?_
     rotate_left
     ·(intro w hSw; (try dsimp only at hSw); go_simp)
      try with_reducible rfl
     try simp only [Act.put,J1,J2,J3,J4,J5,J6]
     refine wpAnyH_take (i:=17) (v:=?_) rfl (by kernel_rfl) (by kernel_rfl) (by kernel_rfl) (fun _ _ _ h => h) (Or.inl ⟨by kernel_rfl,?_⟩) (by assumption) ?_
     rotate_left
     ·(intro w hSw; (try dsimp only at hSw); go_simp)
      try with_reducible rfl
     try simp only [Act.put,J1,J2,J3,J4,J5,J6]
     refine wpAnyH_take (i:=18) (v:=?_) rfl (by kernel_rfl) (by kernel_rfl) (by kernel_rfl) (fun _ _ _ h => h) (Or.inl ⟨by kernel_rfl,?_⟩) (by assumption) ?_
     rotate_left
     ·(intro w hSw; (try dsimp only at hSw); go_simp)
      try with_reducible rfl
     try simp only [Act.put,J1,J2,J3,J4,J5,J6]
     refine wpAnyH_take (i:=19) (v:=?_) rfl (by kernel_rfl) (by kernel_rfl) (by kernel_rfl) (fun _ _ _ h => h) (Or.inl ⟨by kernel_rfl,?_⟩) (by assumption) ?_
     rotate_left
     ·(intro w hSw; (try dsimp only at hSw); go_simp)
      try with_reducible rfl
     try simp only [Act.put,J1,J2,J3,J4,J5,J6]
     refine Jr (rs:=[16]) (by kernel_rfl) (by simp) ?_
     refine Jd rfl (fun K hK => ?_) Je
     go_simp
     go_at_call 101
     refine (HSZ.out wz).mono ?_
     rintro e wy ⟨rfl,rfl⟩
     try dsimp only
     refine hK.out _ _ (HX.out wy HBY.out) (fun hHeld => ?_)
     clear hK K
     try simp only [Act.put,J1,J2,J3,J4,J5,J6]
     refine Jr (rs:=[20]) (by kernel_rfl) (by simp) ?_
     refine Jd rfl (fun K hK => ?_) Je
     go_simp
     go_at_call 100
     refine (HGC.out _).mono ?_
     rintro e wg ⟨rfl,hbg⟩
     have HBX : Hid (Below W1.heap.size W1 wg):=HBY.out.trans (hbg.mono HBY.out.size)
     have HBG : Hid (Below w.heap.size w wg):=HB1.out.trans (HBX.out.mono HB1.out.size)
     clear hbg
     try dsimp only
     refine hK.out _ _ (HX.out wg HBX.out) (fun hHeld => ?_)
     clear hK K
     try simp only [Act.put,J1,J2,J3,J4,J5,J6]
     refine wpAnyH_take (i:=21) (v:=?_) rfl (by kernel_rfl) (by kernel_rfl) (by kernel_rfl) (fun _ _ _ h => h) (Or.inl ⟨by kernel_rfl,?_⟩) (by assumption) ?_
     rotate_left
     ·(intro w hSw; (try dsimp only at hSw); go_simp)
      try with_reducible rfl
     try simp only [Act.put,J1,J2,J3,J4,J5,J6]
     refine wpAnyH_take (i:=22) (v:=?_) rfl (by kernel_rfl) (by kernel_rfl) (by kernel_rfl) (fun _ _ _ h => h) (Or.inl ⟨by kernel_rfl,?_⟩) (by assumption) ?_
     rotate_left
     ·(intro w hSw; (try dsimp only at hSw); go_simp)
      try with_reducible rfl
     try simp only [Act.put,J1,J2,J3,J4,J5,J6]
     refine wpAnyH_done (by kernel_rfl) ?_ _
     go_wp2_with fail
     all_goals go_ret
     all_goals exact ⟨rfl,HBG.out⟩
    ·have q2 : (((G : Nat) : Int) != 1) = true:=by simp; omega
     have HE2 : Hid ((if G = 1 then (0 : Int) else 8) = 8):=if_neg hg
     rw [HE2.out]
     clear hg
     go_enter Tryz.func52,Tryz.ntmps52
     go_upto_region 1 with fail
     rw [HW1.out]
     refine wp_region_held_drew (S:=fun W => W.cell? ⟨w.heap.size,0,none⟩ = some (.int .i64 a) ∧ W.cell? ⟨w.heap.size,1,none⟩ = some (.int .i64 p) ∧ w.heap.size < W.heap.size) (by kernel_rfl) HS0.out (fun hHeld => ?_)
     refine wpAnyH_take (i:=0) (v:=?_) rfl (by kernel_rfl) (by kernel_rfl) (by kernel_rfl) (fun _ _ _ h => h) (Or.inl ⟨by kernel_rfl,?_⟩) (by assumption) ?_
     rotate_left
     ·(intro w hSw; (try dsimp only at hSw); go_simp)
      try with_reducible rfl
     try simp only [Act.put,J1,J2,J3,J4,J5]
     refine wpAnyH_take (i:=1) (v:=?_) rfl (by kernel_rfl) (by kernel_rfl) (by kernel_rfl) (fun _ _ _ h => h) (Or.inl ⟨by kernel_rfl,?_⟩) (by assumption) ?_
     rotate_left
     ·(intro w hSw; (try dsimp only at hSw); go_simp)
      try with_reducible rfl
     try simp only [Act.put,J1,J2,J3,J4,J5,J6]
     refine wpAnyH_take (i:=2) (v:=?_) rfl (by kernel_rfl) (by kernel_rfl) (by kernel_rfl) (fun _ _ _ h => h) (Or.inl ⟨by kernel_rfl,?_⟩) (by assumption) ?_
     rotate_left
     ·(intro w hSw; (try dsimp only at hSw); go_simp)
      try with_reducible rfl
     try simp only [Act.put,J1,J2,J3,J4,J5,J6]
     refine wpAnyH_take (i:=3) (v:=?_) rfl (by kernel_rfl) (by kernel_rfl) (by kernel_rfl) (fun _ _ _ h => h) (Or.inl ⟨by kernel_rfl,?_⟩) (by assumption) ?_
     rotate_left
     ·(intro w hSw; (try dsimp only at hSw); go_simp)
      try with_reducible rfl
     try simp only [Act.put,J1,J2,J3,J4,J5,J6]
     refine wpAnyH_take (i:=4) (v:=?_) rfl (by kernel_rfl) (by kernel_rfl) (by kernel_rfl) (fun _ _ _ h => h) (Or.inl ⟨by kernel_rfl,?_⟩) (by assumption) ?_
     rotate_left
     ·(intro w hSw; (try dsimp only at hSw); go_simp)
      try with_reducible rfl
     try simp only [Act.put,J1,J2,J3,J4,J5,J6]
     refine wpAnyH_take (i:=5) (v:=?_) rfl (by kernel_rfl) (by kernel_rfl) (by kernel_rfl) (fun _ _ _ h => h) (Or.inl ⟨by kernel_rfl,?_⟩) (by assumption) ?_
     rotate_left
     ·(intro w hSw; (try dsimp only at hSw); go_simp)
      try with_reducible rfl
     try simp only [Act.put,J1,J2,J3,J4,J5,J6]
     refine wpAnyH_take (i:=6) (v:=?_) rfl (by kernel_rfl) (by kernel_rfl) (by kernel_rfl) (fun _ _ _ h => h) (Or.inl ⟨by kernel_rfl,?_⟩) (by assumption) ?_
     rotate_left
     ·(intro w hSw; (try dsimp only at hSw); go_simp)
      try with_reducible rfl
     try simp only [Act.put,J1,J2,J3,J4,J5,J6]
     refine wpAnyH_take (i:=7) (v:=?_) rfl (by kernel_rfl) (by kernel_rfl) (by kernel_rfl) (fun _ _ _ h => h) (Or.inl ⟨by kernel_rfl,?_⟩) (by assumption) ?_
     rotate_left
     ·(intro w hSw; (try dsimp only at hSw); go_simp)
      try with_reducible rfl
     try simp only [Act.put,J1,J2,J3,J4,J5,J6]
     refine wpAnyH_take (i:=8) (v:=?_) rfl (by kernel_rfl) (by kernel_rfl) (by kernel_rfl) (fun _ _ _ h => h) (Or.inl ⟨by kernel_rfl,?_⟩) (by assumption) ?_
     rotate_left
     ·(intro w hSw; (try dsimp only at hSw); go_simp)
      try with_reducible rfl
     try simp only [Act.put,J1,J2,J3,J4,J5,J6]
     refine wpAnyH_take (i:=9) (v:=?_) rfl (by kernel_rfl) (by kernel_rfl) (by kernel_rfl) (fun _ _ _ h => h) (Or.inl ⟨by kernel_rfl,?_⟩) (by assumption) ?_
     rotate_left
     ·(intro w hSw; (try dsimp only at hSw); go_simp)
      try with_reducible rfl
     try simp only [Act.put,J1,J2,J3,J4,J5,J6]
     refine Jr (rs:=[10]) (by kernel_rfl) (by simp) ?_
     refine Jd rfl (fun K hK => ?_) Je
     go_simp
     go_at_call 99
     refine HWI.out.mono ?_
     rintro e wz ⟨rfl,hbz⟩
     have HBY : Hid (Below W1.heap.size W1 wz):=Below.trans (b:=W1.drew) hself hbz
     have HBZ : Hid (Below w.heap.size w wz):=HB1.out.trans (HBY.out.mono HB1.out.size)
     clear hbz
     try dsimp only
     refine hK.out _ _ (HX.out wz HBY.out) (fun hHeld => ?_)
     clear hK K
     try simp only [Act.put,J1,J2,J3,J4,J5,J6]
     refine wpAnyH_take (i:=11) (v:=?_) rfl (by kernel_rfl) (by kernel_rfl) (by kernel_rfl) (fun _ _ _ h => h) (Or.inl ⟨by kernel_rfl,?_⟩) (by assumption) ?_
     rotate_left
     ·(intro w hSw; (try dsimp only at hSw); go_simp)
      try with_reducible rfl
     try simp only [Act.put,J1,J2,J3,J4,J5,J6]
     refine wpAnyH_take (i:=12) (v:=?_) rfl (by kernel_rfl) (by kernel_rfl) (by kernel_rfl) (fun _ _ _ h => h) (Or.inl ⟨by kernel_rfl,?_⟩) (by assumption) ?_
     rotate_left
     ·(intro w hSw; (try dsimp only at hSw); go_simp)
      try with_reducible rfl
     try simp only [Act.put,J1,J2,J3,J4,J5,J6]
     refine wpAnyH_take (i:=13) (v:=?_) rfl (by kernel_rfl) (by kernel_rfl) (by kernel_rfl) (fun _ _ _ h => h) (Or.inl ⟨by kernel_rfl,?_⟩) (by assumption) ?_
     rotate_left
     ·(intro w hSw; (try dsimp only at hSw); go_simp)
      try with_reducible rfl
     try simp only [Act.put,J1,J2,J3,J4,J5,J6]
     refine wpAnyH_take (i:=14) (v:=?_) rfl (by kernel_rfl) (by kernel_rfl) (by kernel_rfl) (fun _ _ _ h => h) (Or.inl ⟨by kernel_rfl,?_⟩) (by assumption) ?_
     rotate_left
     ·(intro w hSw; (try dsimp only at hSw); go_simp)
      try with_reducible rfl
     try simp only [Act.put,J1,J2,J3,J4,J5,J6]
     refine wpAnyH_take (i:=15) (v:=?_) rfl (by kernel_rfl) (by kernel_rfl) (by kernel_rfl) (fun _ _ _ h => h) (Or.inl ⟨by kernel_rfl,?_⟩) (by assumption) ?_
     rotate_left
     ·(intro w hSw; (try dsimp only at hSw); go_simp)
      try with_reducible rfl
     try simp only [Act.put,J1,J2,J3,J4,J5,J6]
     refine wpAnyH_take (i:=17) (v:=?_) rfl (by kernel_rfl) (by kernel_rfl) (by kernel_rfl) (fun _ _ _ h => h) (Or.inl ⟨by kernel_rfl,?_⟩) (by assumption) ?_
     rotate_left
     ·(intro w hSw; (try dsimp only at hSw); go_simp)
      try with_reducible rfl
     try simp only [Act.put,J1,J2,J3,J4,J5,J6]
     refine wpAnyH_take (i:=18) (v:=?_) rfl (by kernel_rfl) (by kernel_rfl) (by kernel_rfl) (fun _ _ _ h => h) (Or.inl ⟨by kernel_rfl,?_⟩) (by assumption) ?_
     rotate_left
     ·(intro w hSw; (try dsimp only at hSw); go_simp)
      try with_reducible rfl
     try simp only [Act.put,J1,J2,J3,J4,J5,J6]
     refine wpAnyH_take (i:=19) (v:=?_) rfl (by kernel_rfl) (by kernel_rfl) (by kernel_rfl) (fun _ _ _ h => h) (Or.inl ⟨by kernel_rfl,?_⟩) (by assumption) ?_
     rotate_left
     ·(intro w hSw; (try dsimp only at hSw); go_simp)
      try with_reducible rfl
     try simp only [Act.put,J1,J2,J3,J4,J5,J6]
     refine Jr (rs:=[16]) (by kernel_rfl) (by simp) ?_
     refine Jd rfl (fun K hK => ?_) Je
     go_simp
     go_at_call 101
     refine (HSZ.out wz).mono ?_
     rintro e wy ⟨rfl,rfl⟩
     try dsimp only
     refine hK.out _ _ (HX.out wy HBY.out) (fun hHeld => ?_)
     clear hK K
     try simp only [Act.put,J1,J2,J3,J4,J5,J6]
     refine Jr (rs:=[20]) (by kernel_rfl) (by simp) ?_
     refine Jd rfl (fun K hK => ?_) Je
     go_simp
     go_at_call 100
     refine (HGC.out _).mono ?_
     rintro e wg ⟨rfl,hbg⟩
     have HBX : Hid (Below W1.heap.size W1 wg):=HBY.out.trans (hbg.mono HBY.out.size)
     have HBG : Hid (Below w.heap.size w wg):=HB1.out.trans (HBX.out.mono HB1.out.size)
     clear hbg
     try dsimp only
     refine hK.out _ _ (HX.out wg HBX.out) (fun hHeld => ?_)
     clear hK K
     try simp only [Act.put,J1,J2,J3,J4,J5,J6]
     refine wpAnyH_take (i:=21) (v:=?_) rfl (by kernel_rfl) (by kernel_rfl) (by kernel_rfl) (fun _ _ _ h => h) (Or.inl ⟨by kernel_rfl,?_⟩) (by assumption) ?_
     rotate_left
     ·(intro w hSw; (try dsimp only at hSw); go_simp)
      try with_reducible rfl
     try simp only [Act.put,J1,J2,J3,J4,J5,J6]
     refine wpAnyH_take (i:=22) (v:=?_) rfl (by kernel_rfl) (by kernel_rfl) (by kernel_rfl) (fun _ _ _ h => h) (Or.inl ⟨by kernel_rfl,?_⟩) (by assumption) ?_
     rotate_left
     ·(intro w hSw; (try dsimp only at hSw); go_simp)
      try with_reducible rfl
     try simp only [Act.put,J1,J2,J3,J4,J5,J6]
     refine wpAnyH_done (by kernel_rfl) ?_ _
     go_wp2_with fail
     all_goals go_ret
     all_goals exact ⟨rfl,HBG.out⟩
end Go.Proofs.YtockinpjfhhkoaaGreatDoor
